/- Part of a proof by program: W1. -/
import Derived.Test.YteeilbddjlpiaaaD1
import Derived.Test.YteeilbddjlpiaaaProg
import Derived.Test.YteeilbddjlpiaaaBits
namespace Go.Proofs.Yteeilbddjlpiaaa
open Go Go.E Go.L Go.RowKit
set_option linter.unusedVariables false
set_option linter.unusedSimpArgs false
set_option maxRecDepth 100000
theorem Try_mix : Try.prog.follows .mixedOrders = true := by kernel_rfl
theorem fa_43_0 : FA Try.prog 43 0 0 := fa_of Try.underlying43 rfl Try.sizeOf41 rfl
theorem fa_43_1 : FA Try.prog 43 1 1 := fa_of Try.underlying43 rfl Try.sizeOf3 rfl
theorem fa_59_0 : FA Try.prog 59 0 0 := fa_of Try.underlying59 rfl Try.sizeOf57 rfl
theorem fa_59_1 : FA Try.prog 59 1 1 := fa_of Try.underlying59 rfl Try.sizeOf3 rfl
theorem fa_85_0 : FA Try.prog 85 0 0 := fa_of Try.underlying85 rfl Try.sizeOf23 rfl
theorem fa_85_1 : FA Try.prog 85 1 1 := fa_of Try.underlying85 rfl Try.sizeOf3 rfl
theorem fa_85_2 : FA Try.prog 85 2 2 := fa_of Try.underlying85 rfl Try.sizeOf30 rfl
theorem fa_85_3 : FA Try.prog 85 3 3 := fa_of Try.underlying85 rfl Try.sizeOf4 rfl
theorem fa_89_0 : FA Try.prog 89 0 0 := fa_of Try.underlying89 rfl Try.sizeOf23 rfl
theorem fa_89_1 : FA Try.prog 89 1 1 := fa_of Try.underlying89 rfl Try.sizeOf30 rfl
theorem fa_89_2 : FA Try.prog 89 2 2 := fa_of Try.underlying89 rfl Try.sizeOf3 rfl
theorem fa_93_0 : FA Try.prog 93 0 0 := fa_of Try.underlying93 rfl Try.sizeOf3 rfl
theorem fa_93_1 : FA Try.prog 93 1 1 := fa_of Try.underlying93 rfl Try.sizeOf3 rfl
theorem fa_93_2 : FA Try.prog 93 2 2 := fa_of Try.underlying93 rfl Try.sizeOf3 rfl
theorem fa_93_3 : FA Try.prog 93 3 3 := fa_of Try.underlying93 rfl Try.sizeOf43 rfl
theorem fa_112_0 : FA Try.prog 112 0 0 := fa_of Try.underlying112 rfl Try.sizeOf3 rfl
theorem fa_112_1 : FA Try.prog 112 1 1 := fa_of Try.underlying112 rfl Try.sizeOf3 rfl
theorem fa_135_0 : FA Try.prog 135 0 0 := fa_of Try.underlying135 rfl Try.sizeOf3 rfl
theorem fa_135_1 : FA Try.prog 135 1 1 := fa_of Try.underlying135 rfl Try.sizeOf3 rfl
theorem et_23 : ET Try.prog 23 43 2 := et_of Try.underlying23 (by decide) (by kernel_rfl)
theorem et_24 : ET Try.prog 24 4 1 := et_of Try.underlying24 (by decide) (by kernel_rfl)
theorem et_30 : ET Try.prog 30 93 5 := et_of Try.underlying30 (by decide) (by kernel_rfl)
theorem et_41 : ET Try.prog 41 112 2 := et_of Try.underlying41 (by decide) (by kernel_rfl)
theorem et_65 : ET Try.prog 65 3 1 := et_of Try.underlying65 (by decide) (by kernel_rfl)
theorem bld_112_0_1 (a0 a1 : Value) (ha0 : a0.oneCell' = true) (ha1 : a1.oneCell' = true) : ∀ w, (Instr.build 112 #[(0, a0), (1, a1)]).run Try.prog w = .ok (.agg #[a0, a1]) w := by
  intro w
  simp [Instr.build, Instr.fill, Try.zeroValue112, Try.runUnderlying112, Try.sizeOf3, cells_one ha0, cells_one ha1, cells_agg]
theorem bld_43_  : ∀ w, (Instr.build 43 #[]).run Try.prog w = .ok (.agg #[.slice none 0 0, .int .i64 0]) w := by
  intro w
  simp [Instr.build, Instr.fill, Try.zeroValue43, Try.runUnderlying43, Try.sizeOf3, Try.sizeOf41, cells_agg]
theorem bld_43_0_1 (a0 a1 : Value) (ha0 : a0.oneCell' = true) (ha1 : a1.oneCell' = true) : ∀ w, (Instr.build 43 #[(0, a0), (1, a1)]).run Try.prog w = .ok (.agg #[a0, a1]) w := by
  intro w
  simp [Instr.build, Instr.fill, Try.zeroValue43, Try.runUnderlying43, Try.sizeOf3, Try.sizeOf41, cells_one ha0, cells_one ha1, cells_agg]
theorem bld_43_1 (a0 : Value) (ha0 : a0.oneCell' = true) : ∀ w, (Instr.build 43 #[(1, a0)]).run Try.prog w = .ok (.agg #[.slice none 0 0, a0]) w := by
  intro w
  simp [Instr.build, Instr.fill, Try.zeroValue43, Try.runUnderlying43, Try.sizeOf3, Try.sizeOf41, cells_one ha0, cells_agg]
theorem bld_85_0_1 (a0 a1 : Value) (ha0 : a0.oneCell' = true) (ha1 : a1.oneCell' = true) : ∀ w, (Instr.build 85 #[(0, a0), (1, a1)]).run Try.prog w = .ok (.agg #[a0, a1, .slice none 0 0, .bool false]) w := by
  intro w
  simp [Instr.build, Instr.fill, Try.zeroValue85, Try.runUnderlying85, Try.sizeOf3, Try.sizeOf4, Try.sizeOf23, Try.sizeOf30, cells_one ha0, cells_one ha1, cells_agg]
theorem bld_89_0_2 (a0 a1 : Value) (ha0 : a0.oneCell' = true) (ha1 : a1.oneCell' = true) : ∀ w, (Instr.build 89 #[(0, a0), (2, a1)]).run Try.prog w = .ok (.agg #[a0, .slice none 0 0, a1]) w := by
  intro w
  simp [Instr.build, Instr.fill, Try.zeroValue89, Try.runUnderlying89, Try.sizeOf3, Try.sizeOf23, Try.sizeOf30, cells_one ha0, cells_one ha1, cells_agg]
theorem bld_93_0_3x2 (a0 a1 a2 : Value) (ha0 : a0.oneCell' = true) : ∀ w, (Instr.build 93 #[(0, a0), (3, .agg #[a1, a2])]).run Try.prog w = .ok (.agg #[a0, .int .i64 0, .int .i64 0, a1, a2]) w := by
  intro w
  simp [Instr.build, Instr.fill, Try.zeroValue93, Try.runUnderlying93, Try.sizeOf3, Try.sizeOf43, cells_one ha0, cells_agg]
theorem bs_23_0  : ∀ w, (Instr.buildSlice 23 0 #[]).run Try.prog w = .ok (.slice (some ⟨w.heap.size, 0, none⟩) 0 0) (w.alloc (.cells #[] 43)) := by
  intro w
  simp [Instr.buildSlice, Instr.fill, newRow, Try.runUnderlying23, Try.sizeOf43, cells_agg, cells_int, cells_bool, cells_str, cells_sl, Array.range_succ, range0]
theorem bs_23_1_2 (a0 a1 : Value)  : ∀ w, (Instr.buildSlice 23 1 #[(0, .agg #[a0, a1])]).run Try.prog w = .ok (.slice (some ⟨w.heap.size, 0, none⟩) 1 1) (w.alloc (.cells #[a0, a1] 43)) := by
  intro w
  simp [Instr.buildSlice, Instr.fill, newRow, Try.zeroValue43, Try.runUnderlying23, Try.sizeOf43, cells_agg, cells_int, cells_bool, cells_str, cells_sl, Array.range_succ, range0]
theorem bs_24_0  : ∀ w, (Instr.buildSlice 24 0 #[]).run Try.prog w = .ok (.slice (some ⟨w.heap.size, 0, none⟩) 0 0) (w.alloc (.cells #[] 4)) := by
  intro w
  simp [Instr.buildSlice, Instr.fill, newRow, Try.runUnderlying24, Try.sizeOf4, cells_agg, cells_int, cells_bool, cells_str, cells_sl, Array.range_succ, range0]
theorem bs_24_1_0 (a0 : Value) (ha0 : a0.oneCell' = true) : ∀ w, (Instr.buildSlice 24 1 #[(0, a0)]).run Try.prog w = .ok (.slice (some ⟨w.heap.size, 0, none⟩) 1 1) (w.alloc (.cells #[a0] 4)) := by
  intro w
  simp [Instr.buildSlice, Instr.fill, newRow, Try.zeroValue4, Try.runUnderlying24, Try.sizeOf4, cells_one ha0, cells_agg, cells_int, cells_bool, cells_str, cells_sl, Array.range_succ, range0]
theorem bs_30_0  : ∀ w, (Instr.buildSlice 30 0 #[]).run Try.prog w = .ok (.slice (some ⟨w.heap.size, 0, none⟩) 0 0) (w.alloc (.cells #[] 93)) := by
  intro w
  simp [Instr.buildSlice, Instr.fill, newRow, Try.runUnderlying30, Try.sizeOf93, cells_agg, cells_int, cells_bool, cells_str, cells_sl, Array.range_succ, range0]
theorem bs_30_1_5 (a0 a1 a2 a3 a4 : Value)  : ∀ w, (Instr.buildSlice 30 1 #[(0, .agg #[a0, a1, a2, a3, a4])]).run Try.prog w = .ok (.slice (some ⟨w.heap.size, 0, none⟩) 1 1) (w.alloc (.cells #[a0, a1, a2, a3, a4] 93)) := by
  intro w
  simp [Instr.buildSlice, Instr.fill, newRow, Try.zeroValue93, Try.runUnderlying30, Try.sizeOf93, cells_agg, cells_int, cells_bool, cells_str, cells_sl, Array.range_succ, range0]
theorem bs_41_0  : ∀ w, (Instr.buildSlice 41 0 #[]).run Try.prog w = .ok (.slice (some ⟨w.heap.size, 0, none⟩) 0 0) (w.alloc (.cells #[] 112)) := by
  intro w
  simp [Instr.buildSlice, Instr.fill, newRow, Try.runUnderlying41, Try.sizeOf112, cells_agg, cells_int, cells_bool, cells_str, cells_sl, Array.range_succ, range0]
theorem bs_41_1_2 (a0 a1 : Value)  : ∀ w, (Instr.buildSlice 41 1 #[(0, .agg #[a0, a1])]).run Try.prog w = .ok (.slice (some ⟨w.heap.size, 0, none⟩) 1 1) (w.alloc (.cells #[a0, a1] 112)) := by
  intro w
  simp [Instr.buildSlice, Instr.fill, newRow, Try.zeroValue112, Try.runUnderlying41, Try.sizeOf112, cells_agg, cells_int, cells_bool, cells_str, cells_sl, Array.range_succ, range0]
theorem bs_65_0  : ∀ w, (Instr.buildSlice 65 0 #[]).run Try.prog w = .ok (.slice (some ⟨w.heap.size, 0, none⟩) 0 0) (w.alloc (.cells #[] 3)) := by
  intro w
  simp [Instr.buildSlice, Instr.fill, newRow, Try.runUnderlying65, Try.sizeOf3, cells_agg, cells_int, cells_bool, cells_str, cells_sl, Array.range_succ, range0]
theorem bs_65_1_0 (a0 : Value) (ha0 : a0.oneCell' = true) : ∀ w, (Instr.buildSlice 65 1 #[(0, a0)]).run Try.prog w = .ok (.slice (some ⟨w.heap.size, 0, none⟩) 1 1) (w.alloc (.cells #[a0] 3)) := by
  intro w
  simp [Instr.buildSlice, Instr.fill, newRow, Try.zeroValue3, Try.runUnderlying65, Try.sizeOf3, cells_one ha0, cells_agg, cells_int, cells_bool, cells_str, cells_sl, Array.range_succ, range0]
theorem bs_65_2_0_0 (a0 a1 : Value) (ha0 : a0.oneCell' = true) (ha1 : a1.oneCell' = true) : ∀ w, (Instr.buildSlice 65 2 #[(0, a0), (1, a1)]).run Try.prog w = .ok (.slice (some ⟨w.heap.size, 0, none⟩) 2 2) (w.alloc (.cells #[a0, a1] 3)) := by
  intro w
  simp [Instr.buildSlice, Instr.fill, newRow, Try.zeroValue3, Try.runUnderlying65, Try.sizeOf3, cells_one ha0, cells_one ha1, cells_agg, cells_int, cells_bool, cells_str, cells_sl, Array.range_succ, range0]
theorem s_l1Copy_c {c : Con} {v0_0 : Value} {H : FH} {w : World} (hst : Star H w []) (h0_0 : (rS 112 rTerm).rel H [v0_0] c.terms) {r : Con} (hF : s_l1Copy c = some r) :
 C Try.prog 70 #[.agg #[v0_0,I c.bound]] w fun v w'=>∃ (u1 : Value),v = .agg #[u1,I r.bound]∧Star H w' [oF 112 rTerm u1 r.terms]:=by
 unfold s_l1Copy at hF
 refine C_enter Try.func70 rfl Try.ntmps70 rfl (sq (L_box (v:=.agg #[v0_0,I c.bound]) (cs:=#[v0_0,I c.bound]) rfl rfl rfl hst (fun g5 w6 hst=>L_al (cs:=#[S0,I 0]) rfl Try.zeroValue43 rfl hst (fun g7 w8 hst=>nq ?_))))
 obtain ⟨x12,hx12,hF⟩:=bind_some hF
 refine W_drawS 6 [anyF,isV (Pt g5),isV (v0_0),anyF,isV (Pq g5 1),isV (I c.bound)] [box g7 43 #[S0,I 0],box g5 43 #[v0_0,I c.bound]] [.made 0 3 (fun v_=>oF 112 rTerm v_ ([])) (some 3),.made 3 6 (fun v_=>oF 112 rTerm v_ x12) none] ([]) [([],[0]),([],[]),([],[]),([0],[1]),([],[]),([],[])] (S:=[(some 0,[3],some 3),(some 3,[6],none)]) Try_mix (by kernel_rfl) rfl (by kernel_rfl) (amF_cons (mono_any) (amF_cons (mono_V _) (amF_cons (mono_V _) (amF_cons (mono_any) (amF_cons (mono_V _) (amF_cons (mono_V _) amF_nil)))))) hst ?_ (fun f w_ H17 hS17 hE17 hT17 hst=>?_)
 refine opsS_cons ?_ ?_
 intro f w_ H17 X17 hS17 hE17 hP17 hst
 refine L_bs rfl parts0 (bs_41_0  ) hst (fun g24 w25 hst=>?_)
 have hst:=Star.mkRow (R:=(OR.frz rTerm)) [] [] 0 hst rfl rfl rfl (by decide)
 have hst:=hst.gets [2,2] rfl
 exact L_nil ⟨rfl,_,_,rfl,Le.refl _,fun _ _=>trivial,hst⟩
 refine opsS_cons (fun f w_ _ _ s _ _ hst=>fA 0 fa_43_0 ((s 1 rfl).trans rfl) rfl (nO rfl rfl hst)) (opsS_cons (fun f w_ _ _ _ _ p hst=>ldB 1 hst Try.isAgg41 (p 1 4 rfl rfl) rfl rfl (nO rfl rfl hst)) (opsS_cons ?_ ?_))
 intro f w_ H17 X17 hS17 hE17 hP17 hst
 have hst : Star H17 w_ (box g7 43 #[S0,I 0] :: box g5 43 #[v0_0,I c.bound] :: oF 112 rTerm (f 3) ([]) :: X17):=hst
 have hst:=hst.get 2 rfl
 refine L_app (v:=(f 3)) (u:=v0_0) rfl et_41 rfl (hP17 2 5 rfl rfl) hst (RP.mono _ h0_0 hE17) hx12 (fun v28 w29 hst=>?_)
 have hst:=hst.gets [2,2] rfl
 exact L_nil ⟨rfl,_,_,rfl,Le.refl _,fun _ _=>trivial,hst⟩
 refine opsS_cons (fun f w_ _ _ s _ _ hst=>fA 1 fa_43_1 ((s 1 rfl).trans rfl) rfl (nO rfl rfl hst)) (opsS_cons (fun f w_ _ _ _ _ p hst=>ldB 1 hst Try.isAgg3 (p 4 7 rfl rfl) rfl rfl (nO rfl rfl hst)) (opsS_nil))
 have hst : Star H17 w_ ([box g7 43 #[S0,I 0],box g5 43 #[v0_0,I c.bound],oF 112 rTerm (f 6) x12]):=hst
 refine L_bld rfl (parts2 rfl (hT17 5 8 rfl rfl)) (bld_43_0_1 ((f 6)) (I c.bound) (one_len (Star.len 2 hst rfl)) rfl) (L_staB (vs:=#[(f 6),I c.bound]) (cs2:=#[(f 6),I c.bound]) 0 rfl Try.sizeOf43 ((hS17 2 rfl).trans rfl) rfl rfl (ones_cons (one_len (Star.len 2 hst rfl)) (ones_cons rfl ones_nil)) hst rfl (by show 0 + 2≤2; decide) rfl (fun w32 hst=>nn (W_ret (retG1 (v1:=.agg #[(f 6),I c.bound]) Try.results70 (resV_agg Try.isAgg43 Try.sizeOf43 ((hS17 2 rfl).trans rfl) (Star.blkAt 0 hst rfl) rfl) ?_))))
 obtain rfl:=so hF
 have hst:=hst.get 2 rfl
 exact ⟨(f 6),rfl,(Star.down (Star.keepN 1 hst) hE17 (co closed_term c0))⟩
theorem s_l1Total_c {c : Con} {v0_0 : Value} {H : FH} {w : World} (hst : Star H w []) (h0_0 : (rS 112 rTerm).rel H [v0_0] c.terms) {r : Int} (hF : s_l1Total c = some r) :
 C Try.prog 104 #[.agg #[v0_0,I c.bound]] w fun v w'=>v = I r∧Star H w' []:=by
 unfold s_l1Total at hF
 refine C_enter Try.func104 rfl Try.ntmps104 rfl (sq (L_box (v:=.agg #[v0_0,I c.bound]) (cs:=#[v0_0,I c.bound]) rfl rfl rfl hst (fun g3 w4 hst=>aI rfl (ns (aI rfl (nq (sq (aI rfl (nn ?_)))))))))
 have hlen7 : List.length c.terms≤9223372036854775807:=len_le (slice_len h0_0)
 obtain ⟨j7,hL7,hF⟩:=bind_some hF
 obtain ⟨R7,hR7⟩:=exR fun f w_=>∃ n_6 : Int,j7 = .nx n_6∧f 3 = I n_6∧Star H w_ ([])
 refine W_join R7 ?_ ?_
 refine W_block ?_
 obtain ⟨I7,hI7⟩:=exI fun n f w_=>∃ i_5 : Nat,∃ suf7 : List Term,∃ n_6 : Int,n = suf7.length∧List.drop i_5 c.terms = suf7∧i_5 + suf7.length = c.terms.length∧rangeL s_l1Total_b1 suf7 i_5 n_6 = some j7∧f 1 = Pt g3∧f 3 = I n_6∧f 4 = I i_5∧Star H w_ ([box g3 43 #[v0_0,I c.bound]])
 refine W_loop I7 (n:=c.terms.length) ?_ ?_
 exact ij hI7 ⟨0,c.terms,0,rfl,rfl,Nat.zero_add _,hL7,rfl,rfl,rfl,hst⟩
 intro n7 f w_ hI
 obtain ⟨i_5,suf7,n_6,rfl,hd7,hl7,hL7,sf1,sf3,sf4,hst⟩:=ik hI7 hI
 refine W_seq (sq (mF sf4 rfl (fA 0 fa_43_0 sf1 rfl (ldB 0 hst Try.isAgg41 rfl rfl rfl (L_len rfl Try.underlying41 rfl (slice_len h0_0) (L_lss rfl rfl rfl (nn (W_cond (b:=decide ((i_5 : Int) < (c.terms.length : Int))) rfl (fun hc8=>?_) (fun hc8=>?_)))))))))
 have hlt7:=of_decide_eq_true hc8
 rcases suf7 with _ | ⟨x_7,rest7⟩
 exact absurd hlt7 (by simp at hl7; omega)
 obtain ⟨o7,hB7,hL7⟩:=range_cons hL7
 rw [s_l1Total_b1] at hB7
 have hix7:=drop_idx hd7
 refine W_skip (W_seq (W_block (W_region (mF sf3 rfl (fA 0 fa_43_0 sf1 rfl (ldB 0 hst Try.isAgg41 rfl rfl rfl (mF sf4 rfl (L_ix (r:=rTerm) rfl Try.underlying41 Try.sizeOf112 rfl h0_0 rfl hix7 (fun g13 o14 cs_g13 hrk_hat15 hat15=>?_)))))))))
 obtain rfl:=rTerm_iff.1 hrk_hat15
 refine fA o14 fa_112_0 rfl rfl (L_ld rfl Try.isAgg3 rfl (At.cell (AtH.at hat15 hst.sub) (j:=0) rfl) (L_add rfl rfl rfl (aI rfl (nn (W_region (mF sf4 rfl (L_add rfl rfl rfl (aI rfl (nn ?_)))))))))
 obtain rfl:=so hB7
 show ∃ m,m < _∧I7 m _ _
 refine ⟨rest7.length,by simp,?_⟩
 exact ij hI7 ⟨i_5 + 1,rest7,i64 (n_6 + x_7.coef),rfl,drop_next hd7,by simp at hl7; omega,hL7,sf1,rfl,(Eq.trans rfl (congrArg (Value.int .i64) (i64_succ (n:=c.terms.length) (by simp at hl7; omega) hlen7))),hst⟩
 rcases suf7 with _ | ⟨_,_⟩
 obtain rfl:=range_nil hL7
 refine W_exit (rj hR7 ⟨n_6,rfl,sf3,(Star.keepN 0 hst)⟩)
 exact absurd (of_decide_eq_false hc8) (by simp at hl7; omega)
 intro f w_ hR
 obtain ⟨n_6,rfl,sf3,hst⟩:=rk hR7 hR
 refine sq (mF sf3 rfl (aI rfl (nn (W_ret (retG1 (v1:=I n_6) Try.results104 rfl ?_)))))
 obtain rfl:=so hF
 exact ⟨rfl,hst⟩
theorem slices_IndexFunc_implConstraint_c {s : List Con} {f_ : (Con→Option Bool)} {v0 : Value} {v1 : Value} {H : FH} {w : World} (hst : Star H w []) (h0 : (rS 43 (rCon 112)).rel H [v0] s) (h1 : Fun1 Try.prog (rCon 112) true Value.bool f_ v1 H) {r : Int} (hF : slices_IndexFunc_implConstraint s f_ = some r) :
 C Try.prog 129 #[v0,v1] w fun v w'=>v = I r∧Star H w' []:=by
 unfold slices_IndexFunc_implConstraint at hF
 obtain ⟨fid_1,caps_1,rfl,hcall_1,hc_1⟩:=h1
 refine C_enter Try.func129 rfl Try.ntmps129 rfl (sq (aI rfl (nq (sq (mV v0 rfl (L_len rfl Try.underlying23 rfl (slice_len h0) (mI rfl (nn ?_))))))))
 have hlen2 : List.length s≤9223372036854775807:=len_le (slice_len h0)
 obtain ⟨j2,hL2,hF⟩:=bind_some hF
 obtain ⟨R2,hR2⟩:=exR fun f w_=>j2 = .nx ()∧Star H w_ ([])
 refine W_join R2 ?_ ?_
 refine W_block ?_
 obtain ⟨I2,hI2⟩:=exI fun n f w_=>∃ i_1 : Nat,∃ suf2 : List Con,n = suf2.length∧List.drop i_1 s = suf2∧i_1 + suf2.length = s.length∧rangeL (slices_IndexFunc_implConstraint_b1 f_) suf2 i_1 () = some j2∧f 0 = v0∧f 1 = .func (.func fid_1) #[] caps_1∧f 7 = I (s.length : Int)∧f 8 = I i_1∧Star H w_ ([])
 refine W_loop I2 (n:=s.length) ?_ ?_
 exact ij hI2 ⟨0,s,rfl,rfl,Nat.zero_add _,hL2,rfl,rfl,rfl,rfl,hst⟩
 intro n2 f w_ hI
 obtain ⟨i_1,suf2,rfl,hd2,hl2,hL2,sf0,sf1,sf7,sf8,hst⟩:=ik hI2 hI
 refine sq (L_lss rfl sf8 sf7 (nq (W_cond (b:=decide ((i_1 : Int) < (s.length : Int))) rfl (fun hc3=>?_) (fun hc3=>?_))))
 have hlt2:=of_decide_eq_true hc3
 rcases suf2 with _ | ⟨x_2,rest2⟩
 exact absurd hlt2 (by simp at hl2; omega)
 obtain ⟨o2,hB2,hL2⟩:=range_cons hL2
 rw [slices_IndexFunc_implConstraint_b1] at hB2
 have hix2:=drop_idx hd2
 refine W_skip (W_seq (W_block (sq (mF sf8 rfl (aI rfl (nq ?_))))))
 obtain ⟨x8,hx8,hB2⟩:=bind_some hB2
 refine W_region (mF sf1 rfl (mF sf0 rfl (mI rfl (L_ix (r:=(rCon 112)) rfl Try.underlying23 Try.sizeOf43 rfl h0 rfl hix2 (fun g15 o16 cs_g15 hrk_hat17 hat17=>?_)))))
 obtain ⟨u18_0,rfl,hu18_0⟩:=rCon_iff.1 hrk_hat17
 refine L_lda (cs:=[u18_0,I x_2.bound]) rfl Try.isAgg43 Try.sizeOf43 rfl (At.sub (AtH.at hat17 hst.sub) 0 2) rfl ?_
 obtain ⟨H19b,l20,s21,z22,k23⟩:=hst.borrow
 refine L_callv (args:=#[.agg #[u18_0,I x_2.bound]]) rfl hcall_1 rfl (ops1 rfl) (hc_1 _ _ l20 s21 [u18_0,I x_2.bound] _ _ _ (rCon_iff.2 ⟨_,rfl,(RP.mono _ hu18_0 l20)⟩) hx8 (args_app rfl)) ?_
 rintro _ w24 ⟨rfl,hst⟩
 have hst:=k23 hst c0
 refine nn (W_cond (b:=x8) rfl (fun hc25=>?_) (fun hc25=>?_))
 have hB2:=(ite_t hc25).symm.trans hB2
 refine sq (mI rfl (aI rfl (nn (W_ret (retG1 (v1:=I i_1) Try.results129 rfl ?_)))))
 obtain rfl:=so hB2
 obtain rfl:=so hL2
 obtain rfl:=so hF
 exact ⟨rfl,hst⟩
 have hB2:=(ite_f hc25).symm.trans hB2
 refine W_skip (W_region (L_add rfl sf8 rfl (mI rfl (nn ?_))))
 obtain rfl:=so hB2
 show ∃ m,m < _∧I2 m _ _
 refine ⟨rest2.length,by simp,?_⟩
 exact ij hI2 ⟨i_1 + 1,rest2,rfl,drop_next hd2,by simp at hl2; omega,hL2,sf0,sf1,sf7,(Eq.trans rfl (congrArg (Value.int .i64) (i64_succ (n:=s.length) (by simp at hl2; omega) hlen2))),hst⟩
 rcases suf2 with _ | ⟨_,_⟩
 obtain rfl:=range_nil hL2
 refine W_exit (rj hR2 ⟨rfl,hst⟩)
 exact absurd (of_decide_eq_false hc3) (by simp at hl2; omega)
 intro f w_ hR
 obtain ⟨rfl,hst⟩:=rk hR2 hR
 refine sq (aI rfl (nn (W_ret (retG1 (v1:=I (-1)) Try.results129 rfl ?_))))
 obtain rfl:=so hF
 exact ⟨rfl,hst⟩
theorem slices_ContainsFunc_implConstraint_c {s : List Con} {f_ : (Con→Option Bool)} {v0 : Value} {v1 : Value} {H : FH} {w : World} (hst : Star H w []) (h0 : (rS 43 (rCon 112)).rel H [v0] s) (h1 : Fun1 Try.prog (rCon 112) true Value.bool f_ v1 H) {r : Bool} (hF : slices_ContainsFunc_implConstraint s f_ = some r) :
 C Try.prog 106 #[v0,v1] w fun v w'=>v = Bo r∧Star H w' []:=by
 unfold slices_ContainsFunc_implConstraint at hF
 obtain ⟨fid_1,caps_1,rfl,hcall_1,hc_1⟩:=h1
 refine C_enter Try.func106 rfl Try.ntmps106 rfl (sq (aB rfl (nq ?_)))
 obtain ⟨x6,hx6,hF⟩:=bind_some hF
 refine W_region (mV v0 rfl (mV (.func (.func fid_1) #[] caps_1) rfl ?_))
 obtain ⟨H8b,l9,s10,z11,k12⟩:=hst.borrow
 refine L_call rfl Try.call129 (ops2 rfl rfl) (slices_IndexFunc_implConstraint_c (s:=s) (f_:=f_) s10 (RP.mono _ h0 l9) (Fun1.le ⟨_,_,rfl,hcall_1,hc_1⟩ l9) hx6) ?_
 rintro _ w13 ⟨rfl,hst⟩
 have hst:=k12 hst c0
 refine L_geq rfl rfl rfl (aB rfl (nn (W_ret (retG1 (v1:=Bo (decide (x6 ≥ 0))) Try.results106 rfl ?_))))
 obtain rfl:=so hF
 exact ⟨rfl,hst⟩
theorem i_within_c {n_ : Int} {low : Int} {high : Int} {H : FH} {w : World} (hst : Star H w []) {r : Bool} (hF : i_within n_ low high = some r) :
 C Try.prog 100 #[I n_,I low,I high] w fun v w'=>v = Bo r∧Star H w' []:=by
 unfold i_within at hF
 refine C_enter Try.func100 rfl Try.ntmps100 rfl (sq (aB rfl (nq ?_)))
 obtain ⟨R1,hR1⟩:=exR fun f w_=>f 6 = Bo ((decide (low≤n_)) && (decide (n_≤high)))∧Star H w_ ([])
 refine W_join R1 ?_ ?_
 refine W_region (mI rfl (mI rfl (L_leq rfl rfl rfl (mB rfl (L_split (d:=10) (b:=decide (low≤n_)) rfl (fun hc2=>?_) (fun hc2=>?_))))))
 refine mI rfl (mI rfl (L_leq rfl rfl rfl (L_pick (v:=Bo ((decide (low≤n_)) && (decide (n_≤high)))) rfl rfl (and_t hc2 rfl) (aB rfl (nn (rj hR1 ⟨rfl,hst⟩))))))
 refine ps rfl (ps rfl (ps rfl (L_pick (v:=Bo ((decide (low≤n_)) && (decide (n_≤high)))) rfl rfl (and_f hc2) (aB rfl (nn (rj hR1 ⟨rfl,hst⟩))))))
 intro f w_ hR
 obtain ⟨sf6,hst⟩:=rk hR1 hR
 refine W_ret (retG1 (v1:=Bo ((decide (low≤n_)) && (decide (n_≤high)))) Try.results100 sf6 ?_)
 obtain rfl:=so hF
 exact ⟨rfl,hst⟩
theorem i_isLiteral_c {l : Int} {H : FH} {w : World} (hst : Star H w []) {r : Bool} (hF : i_isLiteral l = some r) :
 C Try.prog 88 #[I l] w fun v w'=>v = Bo r∧Star H w' []:=by
 unfold i_isLiteral at hF
 refine C_enter Try.func88 rfl Try.ntmps88 rfl (sq (aB rfl (nq ?_)))
 obtain ⟨b8,hb8,hF⟩:=bind_some hF
 obtain ⟨R9,hR9⟩:=exR fun f w_=>f 2 = Bo b8∧Star H w_ ([])
 refine W_join R9 ?_ ?_
 refine W_region (mI rfl (L_neq rfl rfl rfl (mB rfl (L_split (d:=5) (b:=(l != 0)) rfl (fun hc10=>?_) (fun hc10=>?_)))))
 rw [ite_t hc10] at hb8
 obtain ⟨x6,hx6,hb8⟩:=bind_some hb8
 refine mI rfl ?_
 obtain ⟨H11b,l12,s13,z14,k15⟩:=hst.borrow
 refine L_call rfl Try.call100 (ops3 rfl rfl rfl) (i_within_c (n_:=l) (low:=(-12)) (high:=12) s13 hx6) ?_
 rintro _ w16 ⟨rfl,hst⟩
 have hst:=k15 hst c0
 refine L_pick (v:=Bo b8) rfl rfl (congrArg Value.bool (so hb8)) (aB rfl (nn (rj hR9 ⟨rfl,hst⟩)))
 rw [ite_f hc10] at hb8
 refine ps rfl (ps rfl (L_pick (v:=Bo b8) rfl rfl (congrArg Value.bool (so hb8)) (aB rfl (nn (rj hR9 ⟨rfl,hst⟩)))))
 intro f w_ hR
 obtain ⟨sf2,hst⟩:=rk hR9 hR
 refine W_ret (retG1 (v1:=Bo b8) Try.results88 sf2 ?_)
 obtain rfl:=so hF
 exact ⟨rfl,hst⟩
theorem i_variableOf_c {l : Int} {H : FH} {w : World} (hst : Star H w []) {r : Int} (hF : i_variableOf l = some r) :
 C Try.prog 93 #[I l] w fun v w'=>v = I r∧Star H w' []:=by
 unfold i_variableOf at hF
 refine C_enter Try.func93 rfl Try.ntmps93 rfl (sq (aI rfl (ns (mI rfl (mI rfl (L_neg rfl rfl (L_max rfl rfl rfl (aI rfl (nn (W_ret (retG1 (v1:=I (max l (i64 (-l)))) Try.results93 rfl ?_)))))))))))
 obtain rfl:=so hF
 exact ⟨rfl,hst⟩
theorem i_ConstraintValid_c {c : Con} {v0_0 : Value} {H : FH} {w : World} (hst : Star H w []) (h0_0 : (rS 112 rTerm).rel H [v0_0] c.terms) {r : Bool} (hF : i_ConstraintValid c = some r) :
 C Try.prog 52 #[.agg #[v0_0,I c.bound]] w fun v w'=>v = Bo r∧Star H w' []:=by
 unfold i_ConstraintValid at hF
 refine C_enter Try.func52 rfl Try.ntmps52 rfl (sq (L_box (v:=.agg #[v0_0,I c.bound]) (cs:=#[v0_0,I c.bound]) rfl rfl rfl hst (fun g3 w4 hst=>aB rfl (ns (aI rfl (nq (sq (fA 0 fa_43_0 rfl rfl (ldB 0 hst Try.isAgg41 rfl rfl rfl (L_len rfl Try.underlying41 rfl (slice_len h0_0) (mI rfl (nn ?_))))))))))))
 have hlen7 : List.length c.terms≤9223372036854775807:=len_le (slice_len h0_0)
 obtain ⟨j7,hL7,hF⟩:=bind_some hF
 obtain ⟨R7,hR7⟩:=exR fun f w_=>∃ before_6 : Int,j7 = .nx before_6∧f 1 = Pt g3∧Star H w_ ([box g3 43 #[v0_0,I c.bound]])
 refine W_join R7 ?_ ?_
 refine W_block ?_
 obtain ⟨I7,hI7⟩:=exI fun n f w_=>∃ i_5 : Nat,∃ suf7 : List Term,∃ before_6 : Int,n = suf7.length∧List.drop i_5 c.terms = suf7∧i_5 + suf7.length = c.terms.length∧rangeL i_ConstraintValid_b1 suf7 i_5 before_6 = some j7∧f 1 = Pt g3∧f 3 = I before_6∧f 7 = v0_0∧f 8 = I (c.terms.length : Int)∧f 9 = I i_5∧Star H w_ ([box g3 43 #[v0_0,I c.bound]])
 refine W_loop I7 (n:=c.terms.length) ?_ ?_
 exact ij hI7 ⟨0,c.terms,0,rfl,rfl,Nat.zero_add _,hL7,rfl,rfl,rfl,rfl,rfl,hst⟩
 intro n7 f w_ hI
 obtain ⟨i_5,suf7,before_6,rfl,hd7,hl7,hL7,sf1,sf3,sf7,sf8,sf9,hst⟩:=ik hI7 hI
 refine sq (L_lss rfl sf9 sf8 (nq (W_cond (b:=decide ((i_5 : Int) < (c.terms.length : Int))) rfl (fun hc8=>?_) (fun hc8=>?_))))
 have hlt7:=of_decide_eq_true hc8
 rcases suf7 with _ | ⟨x_7,rest7⟩
 exact absurd hlt7 (by simp at hl7; omega)
 obtain ⟨o7,hB7,hL7⟩:=range_cons hL7
 rw [i_ConstraintValid_b1] at hB7
 have hix7:=drop_idx hd7
 refine W_skip (W_seq (W_block (sq (L_ix (r:=rTerm) rfl Try.underlying41 Try.sizeOf112 sf7 h0_0 sf9 hix7 (fun g16 o17 cs_g16 hrk_hat18 hat18=>?_)))))
 obtain rfl:=rTerm_iff.1 hrk_hat18
 refine L_lda (cs:=[I x_7.coef,I x_7.lit]) rfl Try.isAgg112 Try.sizeOf112 rfl (At.sub (AtH.at hat18 hst.sub) 0 2) rfl (L_al (cs:=#[I 0,I 0]) rfl Try.zeroValue112 rfl hst (fun g20 w21 hst=>L_staB (vs:=#[I x_7.coef,I x_7.lit]) (cs2:=#[I x_7.coef,I x_7.lit]) 0 rfl Try.sizeOf112 rfl rfl rfl (ones_cons rfl (ones_cons rfl ones_nil)) hst rfl (by show 0 + 2≤2; decide) rfl (fun w22 hst=>nq (W_seq ?_))))
 obtain ⟨x28,hx28,hB7⟩:=bind_some hB7
 obtain ⟨b37,hb37,hB7⟩:=bind_some hB7
 obtain ⟨b45,hb45,hB7⟩:=bind_some hB7
 obtain ⟨R46,hR46⟩:=exR fun f w_=>f 1 = Pt g3∧f 5 = Pt g20∧f 7 = v0_0∧f 8 = I (c.terms.length : Int)∧f 9 = I i_5∧f 29 = Bo b45∧Star H w_ ([box g20 112 #[I x_7.coef,I x_7.lit],box g3 43 #[v0_0,I c.bound]])
 refine W_join R46 ?_ ?_
 refine W_region (fA 1 fa_112_1 rfl rfl (ldB 0 hst Try.isAgg3 rfl rfl rfl ?_))
 obtain ⟨H47b,l48,s49,z50,k51⟩:=hst.borrow
 refine L_call rfl Try.call88 (ops1 rfl) (i_isLiteral_c (l:=x_7.lit) s49 hx28) ?_
 rintro _ w52 ⟨rfl,hst⟩
 have hst:=k51 hst c0
 refine L_not_ rfl rfl (mB rfl (L_split (d:=17) (b:=(!x28)) rfl (fun hc53=>?_) (fun hc53=>?_)))
 rw [ite_t hc53] at hb37
 refine ps rfl (ps rfl (ps rfl (ps rfl (ps rfl (L_pick (v:=Bo b37) rfl rfl (congrArg Value.bool (so hb37)) (mB rfl (L_split (d:=24) (b:=b37) rfl (fun hc54=>?_) (fun hc54=>?_))))))))
 rw [ite_t hc54] at hb45
 refine ps rfl (ps rfl (ps rfl (ps rfl (L_pick (v:=Bo b45) rfl rfl (congrArg Value.bool (so hb45)) (nn (rj hR46 ⟨sf1,rfl,sf7,sf8,sf9,rfl,hst⟩))))))
 rw [ite_f hc54] at hb45
 obtain ⟨x43,hx43,hb45⟩:=bind_some hb45
 refine fA 0 fa_112_0 rfl rfl (ldB 0 hst Try.isAgg3 rfl rfl rfl ?_)
 obtain ⟨H55b,l56,s57,z58,k59⟩:=hst.borrow
 refine L_call rfl Try.call100 (ops3 rfl rfl rfl) (i_within_c (n_:=x_7.coef) (low:=1) (high:=1000) s57 hx43) ?_
 rintro _ w60 ⟨rfl,hst⟩
 have hst:=k59 hst c0
 refine L_not_ rfl rfl (L_pick (v:=Bo b45) rfl rfl (congrArg Value.bool (so hb45)) (nn (rj hR46 ⟨sf1,rfl,sf7,sf8,sf9,rfl,hst⟩)))
 rw [ite_f hc53] at hb37
 obtain ⟨x35,hx35,hb37⟩:=bind_some hb37
 refine fA 1 fa_112_1 rfl rfl (ldB 0 hst Try.isAgg3 rfl rfl rfl ?_)
 obtain ⟨H61b,l62,s63,z64,k65⟩:=hst.borrow
 refine L_call rfl Try.call93 (ops1 rfl) (i_variableOf_c (l:=x_7.lit) s63 hx35) ?_
 rintro _ w66 ⟨rfl,hst⟩
 have hst:=k65 hst c0
 refine mF sf3 rfl (L_leq rfl rfl rfl (L_pick (v:=Bo b37) rfl rfl (congrArg Value.bool (so hb37)) (mB rfl (L_split (d:=24) (b:=b37) rfl (fun hc67=>?_) (fun hc67=>?_)))))
 rw [ite_t hc67] at hb45
 refine ps rfl (ps rfl (ps rfl (ps rfl (L_pick (v:=Bo b45) rfl rfl (congrArg Value.bool (so hb45)) (nn (rj hR46 ⟨sf1,rfl,sf7,sf8,sf9,rfl,hst⟩))))))
 rw [ite_f hc67] at hb45
 obtain ⟨x43,hx43,hb45⟩:=bind_some hb45
 refine fA 0 fa_112_0 rfl rfl (ldB 0 hst Try.isAgg3 rfl rfl rfl ?_)
 obtain ⟨H68b,l69,s70,z71,k72⟩:=hst.borrow
 refine L_call rfl Try.call100 (ops3 rfl rfl rfl) (i_within_c (n_:=x_7.coef) (low:=1) (high:=1000) s70 hx43) ?_
 rintro _ w73 ⟨rfl,hst⟩
 have hst:=k72 hst c0
 refine L_not_ rfl rfl (L_pick (v:=Bo b45) rfl rfl (congrArg Value.bool (so hb45)) (nn (rj hR46 ⟨sf1,rfl,sf7,sf8,sf9,rfl,hst⟩)))
 intro f w_ hR
 obtain ⟨sf1,sf5,sf7,sf8,sf9,sf29,hst⟩:=rk hR46 hR
 refine W_cond (b:=b45) sf29 (fun hc74=>?_) (fun hc74=>?_)
 have hB7:=(ite_t hc74).symm.trans hB7
 refine sq (aB rfl (nn (W_ret (retG1 (v1:=Bo false) Try.results52 rfl ?_))))
 obtain rfl:=so hB7
 obtain rfl:=so hL7
 obtain rfl:=so hF
 exact ⟨rfl,(Star.keepN 0 hst)⟩
 have hB7:=(ite_f hc74).symm.trans hB7
 refine W_skip ?_
 obtain ⟨x80,hx80,hB7⟩:=bind_some hB7
 refine W_region (fA 1 fa_112_1 sf5 rfl (ldB 0 hst Try.isAgg3 rfl rfl rfl ?_))
 obtain ⟨H82b,l83,s84,z85,k86⟩:=hst.borrow
 refine L_call rfl Try.call93 (ops1 rfl) (i_variableOf_c (l:=x_7.lit) s84 hx80) ?_
 rintro _ w87 ⟨rfl,hst⟩
 have hst:=k86 hst c0
 refine aI rfl (nn (W_region (L_add rfl sf9 rfl (mI rfl (nn ?_)))))
 obtain rfl:=so hB7
 have hst:=hst.get 1 rfl
 show ∃ m,m < _∧I7 m _ _
 refine ⟨rest7.length,by simp,?_⟩
 exact ij hI7 ⟨i_5 + 1,rest7,x80,rfl,drop_next hd7,by simp at hl7; omega,hL7,sf1,rfl,sf7,sf8,(Eq.trans rfl (congrArg (Value.int .i64) (i64_succ (n:=c.terms.length) (by simp at hl7; omega) hlen7))),(Star.keepN 1 hst)⟩
 rcases suf7 with _ | ⟨_,_⟩
 obtain rfl:=range_nil hL7
 refine W_exit (rj hR7 ⟨before_6,rfl,sf1,hst⟩)
 exact absurd (of_decide_eq_false hc8) (by simp at hl7; omega)
 intro f w_ hR
 obtain ⟨before_6,rfl,sf1,hst⟩:=rk hR7 hR
 refine W_seq ?_
 obtain ⟨x93,hx93,hF⟩:=bind_some hF
 refine W_region (fA 1 fa_43_1 sf1 rfl (ldB 0 hst Try.isAgg3 rfl rfl rfl ?_))
 obtain ⟨H95b,l96,s97,z98,k99⟩:=hst.borrow
 refine L_call rfl Try.call100 (ops3 rfl rfl rfl) (i_within_c (n_:=c.bound) (low:=0) (high:=20000) s97 hx93) ?_
 rintro _ w100 ⟨rfl,hst⟩
 have hst:=k99 hst c0
 refine aB rfl (nn (W_ret (retG1 (v1:=Bo x93) Try.results52 rfl ?_)))
 obtain rfl:=so hF
 exact ⟨rfl,(Star.keepN 0 hst)⟩
theorem i_allValid_1_c {c : Con} {v0_0 : Value} {H : FH} {w : World} (hst : Star H w []) (h0_0 : (rS 112 rTerm).rel H [v0_0] c.terms) {r : Bool} (hF : i_allValid_1 c = some r) :
 C Try.prog 128 #[.agg #[v0_0,I c.bound]] w fun v w'=>v = Bo r∧Star H w' []:=by
 unfold i_allValid_1 at hF
 refine C_enter Try.func128 rfl Try.ntmps128 rfl (sq (L_box (v:=.agg #[v0_0,I c.bound]) (cs:=#[v0_0,I c.bound]) rfl rfl rfl hst (fun g3 w4 hst=>aB rfl (nq ?_))))
 obtain ⟨x10,hx10,hF⟩:=bind_some hF
 refine W_region (L_lda (cs:=[v0_0,I c.bound]) rfl Try.isAgg43 Try.sizeOf43 rfl (At.sub0 (Blk.at (Star.blkAt 0 hst rfl)) 0 2) rfl ?_)
 obtain ⟨H12b,l13,s14,z15,k16⟩:=hst.borrow
 refine L_call rfl Try.call52 (ops1 rfl) (i_ConstraintValid_c (c:=c) s14 (RP.mono _ h0_0 l13) hx10) ?_
 rintro _ w17 ⟨rfl,hst⟩
 have hst:=k16 hst c0
 refine L_not_ rfl rfl (aB rfl (nn (W_ret (retG1 (v1:=Bo (!x10)) Try.results128 rfl ?_))))
 obtain rfl:=so hF
 exact ⟨rfl,(Star.keepN 0 hst)⟩
theorem i_allValid_c {list : List Con} {v0 : Value} {H : FH} {w : World} (hst : Star H w []) (h0 : (rS 43 (rCon 112)).rel H [v0] list) {r : Bool} (hF : i_allValid list = some r) :
 C Try.prog 105 #[v0] w fun v w'=>v = Bo r∧Star H w' []:=by
 unfold i_allValid at hF
 refine C_enter Try.func105 rfl Try.ntmps105 rfl (sq (aB rfl (nq ?_)))
 obtain ⟨x6,hx6,hF⟩:=bind_some hF
 refine W_region (mV v0 rfl ?_)
 obtain ⟨H8b,l9,s10,z11,k12⟩:=hst.borrow
 have hf13 : Fun1 Try.prog (rCon 112) true Value.bool i_allValid_1 (.func (.func 128) #[] #[]) H8b:=by
   refine ⟨_,_,rfl,Try.call128,fun H_ w_ hE_ hs_ cs_ x_ y_ args_ hr_ hy_ ha_=>?_⟩
   obtain ⟨p_0,rfl,hp_0⟩:=rCon_iff.1 hr_
   obtain rfl:=args_of (b:=#[.agg #[p_0,I x_.bound]]) ha_
   exact i_allValid_1_c (c:=x_) hs_ hp_0 hy_
 refine L_call rfl Try.call106 (ops2 rfl rfl) (slices_ContainsFunc_implConstraint_c (s:=list) (f_:=i_allValid_1) s10 (RP.mono _ h0 l9) hf13 hx6) ?_
 rintro _ w14 ⟨rfl,hst⟩
 have hst:=k12 hst c0
 refine L_not_ rfl rfl (aB rfl (nn (W_ret (retG1 (v1:=Bo (!x6)) Try.results105 rfl ?_))))
 obtain rfl:=so hF
 exact ⟨rfl,hst⟩
theorem i_ProblemValid_c {list : List Con} {v0 : Value} {H : FH} {w : World} (hst : Star H w []) (h0 : (rS 43 (rCon 112)).rel H [v0] list) {r : Bool} (hF : i_ProblemValid list = some r) :
 C Try.prog 58 #[v0] w fun v w'=>v = Bo r∧Star H w' []:=by
 unfold i_ProblemValid at hF
 refine C_enter Try.func58 rfl Try.ntmps58 rfl (sq (aB rfl (nq ?_)))
 obtain ⟨b8,hb8,hF⟩:=bind_some hF
 obtain ⟨R9,hR9⟩:=exR fun f w_=>f 2 = Bo b8∧Star H w_ ([])
 refine W_join R9 ?_ ?_
 refine W_region (mV v0 rfl (L_len rfl Try.underlying23 rfl (slice_len h0) (L_leq rfl rfl rfl (mB rfl (L_split (d:=6) (b:=decide ((list.length : Int)≤400)) rfl (fun hc10=>?_) (fun hc10=>?_))))))
 rw [ite_t hc10] at hb8
 obtain ⟨x6,hx6,hb8⟩:=bind_some hb8
 refine mV v0 rfl ?_
 obtain ⟨H11b,l12,s13,z14,k15⟩:=hst.borrow
 refine L_call rfl Try.call105 (ops1 rfl) (i_allValid_c (list:=list) s13 (RP.mono _ h0 l12) hx6) ?_
 rintro _ w16 ⟨rfl,hst⟩
 have hst:=k15 hst c0
 refine L_pick (v:=Bo b8) rfl rfl (congrArg Value.bool (so hb8)) (aB rfl (nn (rj hR9 ⟨rfl,hst⟩)))
 rw [ite_f hc10] at hb8
 refine ps rfl (ps rfl (L_pick (v:=Bo b8) rfl rfl (congrArg Value.bool (so hb8)) (aB rfl (nn (rj hR9 ⟨rfl,hst⟩)))))
 intro f w_ hR
 obtain ⟨sf2,hst⟩:=rk hR9 hR
 refine W_ret (retG1 (v1:=Bo b8) Try.results58 sf2 ?_)
 obtain rfl:=so hF
 exact ⟨rfl,hst⟩
theorem s_l1Lit_c {n_ : Int} {H : FH} {w : World} (hst : Star H w []) {r : Bool} (hF : s_l1Lit n_ = some r) :
 C Try.prog 95 #[I n_] w fun v w'=>v = Bo r∧Star H w' []:=by
 unfold s_l1Lit at hF
 refine C_enter Try.func95 rfl Try.ntmps95 rfl (sq (aB rfl (nq ?_)))
 obtain ⟨R1,hR1⟩:=exR fun f w_=>f 2 = Bo (((n_ != 0) && (decide (n_ ≥ (-12)))) && (decide (n_≤12)))∧Star H w_ ([])
 refine W_join R1 ?_ ?_
 refine W_region (mI rfl (L_neq rfl rfl rfl (mB rfl (L_split (d:=5) (b:=(n_ != 0)) rfl (fun hc2=>?_) (fun hc2=>?_)))))
 refine mI rfl (L_geq rfl rfl rfl (L_pick (v:=Bo ((n_ != 0) && (decide (n_ ≥ (-12))))) rfl rfl (and_t hc2 rfl) (mB rfl (L_split (d:=9) (b:=((n_ != 0) && (decide (n_ ≥ (-12))))) rfl (fun hc3=>?_) (fun hc3=>?_)))))
 refine mI rfl (L_leq rfl rfl rfl (L_pick (v:=Bo (((n_ != 0) && (decide (n_ ≥ (-12)))) && (decide (n_≤12)))) rfl rfl (and_t hc3 rfl) (aB rfl (nn (rj hR1 ⟨rfl,hst⟩)))))
 refine ps rfl (ps rfl (L_pick (v:=Bo (((n_ != 0) && (decide (n_ ≥ (-12)))) && (decide (n_≤12)))) rfl rfl (and_f hc3) (aB rfl (nn (rj hR1 ⟨rfl,hst⟩)))))
 refine ps rfl (ps rfl (L_pick (v:=Bo ((n_ != 0) && (decide (n_ ≥ (-12))))) rfl rfl (and_f hc2) (mB rfl (L_split (d:=9) (b:=((n_ != 0) && (decide (n_ ≥ (-12))))) rfl (fun hc4=>?_) (fun hc4=>?_)))))
 refine mI rfl (L_leq rfl rfl rfl (L_pick (v:=Bo (((n_ != 0) && (decide (n_ ≥ (-12)))) && (decide (n_≤12)))) rfl rfl (and_t hc4 rfl) (aB rfl (nn (rj hR1 ⟨rfl,hst⟩)))))
 refine ps rfl (ps rfl (L_pick (v:=Bo (((n_ != 0) && (decide (n_ ≥ (-12)))) && (decide (n_≤12)))) rfl rfl (and_f hc4) (aB rfl (nn (rj hR1 ⟨rfl,hst⟩)))))
 intro f w_ hR
 obtain ⟨sf2,hst⟩:=rk hR1 hR
 refine W_ret (retG1 (v1:=Bo (((n_ != 0) && (decide (n_ ≥ (-12)))) && (decide (n_≤12)))) Try.results95 sf2 ?_)
 obtain rfl:=so hF
 exact ⟨rfl,hst⟩
theorem s_l1Abs_c {n_ : Int} {H : FH} {w : World} (hst : Star H w []) {r : Int} (hF : s_l1Abs n_ = some r) :
 C Try.prog 96 #[I n_] w fun v w'=>v = I r∧Star H w' []:=by
 unfold s_l1Abs at hF
 refine C_enter Try.func96 rfl Try.ntmps96 rfl (sq (aI rfl (nq (sq (mI rfl (L_lss rfl rfl rfl (nn (W_cond (b:=decide (n_ < 0)) rfl (fun hc1=>?_) (fun hc1=>?_)))))))))
 have hF:=(ite_t hc1).symm.trans hF
 refine sq (mI rfl (L_neg rfl rfl (aI rfl (nn (W_ret (retG1 (v1:=I (i64 (-n_))) Try.results96 rfl ?_))))))
 obtain rfl:=so hF
 exact ⟨rfl,hst⟩
 have hF:=(ite_f hc1).symm.trans hF
 refine W_skip (sq (mI rfl (aI rfl (nn (W_ret (retG1 (v1:=I n_) Try.results96 rfl ?_))))))
 obtain rfl:=so hF
 exact ⟨rfl,hst⟩
theorem s_ConstraintValid_c {c : Con} {v0_0 : Value} {H : FH} {w : World} (hst : Star H w []) (h0_0 : (rS 112 rTerm).rel H [v0_0] c.terms) {r : Bool} (hF : s_ConstraintValid c = some r) :
 C Try.prog 77 #[.agg #[v0_0,I c.bound]] w fun v w'=>v = Bo r∧Star H w' []:=by
 unfold s_ConstraintValid at hF
 refine C_enter Try.func77 rfl Try.ntmps77 rfl (sq (L_box (v:=.agg #[v0_0,I c.bound]) (cs:=#[v0_0,I c.bound]) rfl rfl rfl hst (fun g3 w4 hst=>aB rfl (nq (sq (aI rfl (nn ?_)))))))
 have hlen8 : List.length c.terms≤9223372036854775807:=len_le (slice_len h0_0)
 obtain ⟨j8,hL8,hF⟩:=bind_some hF
 obtain ⟨R8,hR8⟩:=exR fun f w_=>∃ H6 : FH,j8 = .nx ()∧Le H H6∧f 1 = Pt g3∧Star H6 w_ ([box g3 43 #[v0_0,I c.bound]])
 refine W_join R8 ?_ ?_
 refine W_block ?_
 obtain ⟨I8,hI8⟩:=exI fun n f w_=>∃ i_5 : Nat,∃ suf8 : List Term,∃ H6 : FH,n = suf8.length∧List.drop i_5 c.terms = suf8∧i_5 + suf8.length = c.terms.length∧rangeL (s_ConstraintValid_b1 c) suf8 i_5 () = some j8∧Le H H6∧f 1 = Pt g3∧f 3 = I i_5∧Star H6 w_ ([box g3 43 #[v0_0,I c.bound]])
 refine W_loop I8 (n:=c.terms.length) ?_ ?_
 exact ij hI8 ⟨0,c.terms,H,rfl,rfl,Nat.zero_add _,hL8,(Le.refl _),rfl,rfl,hst⟩
 intro n8 f w_ hI
 obtain ⟨i_5,suf8,H6,rfl,hd8,hl8,hL8,l7,sf1,sf3,hst⟩:=ik hI8 hI
 refine W_seq (sq (mF sf3 rfl (fA 0 fa_43_0 sf1 rfl (ldB 0 hst Try.isAgg41 rfl rfl rfl (L_len rfl Try.underlying41 rfl (slice_len (RP.mono _ h0_0 l7)) (L_lss rfl rfl rfl (nn (W_cond (b:=decide ((i_5 : Int) < (c.terms.length : Int))) rfl (fun hc9=>?_) (fun hc9=>?_)))))))))
 have hlt8:=of_decide_eq_true hc9
 rcases suf8 with _ | ⟨x_8,rest8⟩
 exact absurd hlt8 (by simp at hl8; omega)
 obtain ⟨o8,hB8,hL8⟩:=range_cons hL8
 rw [s_ConstraintValid_b1] at hB8
 have hix8:=drop_idx hd8
 refine W_skip (W_seq (W_block (sq (fA 0 fa_43_0 sf1 rfl (ldB 0 hst Try.isAgg41 rfl rfl rfl (mF sf3 rfl (L_ix (r:=rTerm) rfl Try.underlying41 Try.sizeOf112 rfl (RP.mono _ h0_0 l7) rfl hix8 (fun g17 o18 cs_g17 hrk_hat19 hat19=>?_))))))))
 obtain rfl:=rTerm_iff.1 hrk_hat19
 refine L_lda (cs:=[I x_8.coef,I x_8.lit]) rfl Try.isAgg112 Try.sizeOf112 rfl (At.sub (AtH.at hat19 hst.sub) 0 2) rfl (L_al (cs:=#[I 0,I 0]) rfl Try.zeroValue112 rfl hst (fun g21 w22 hst=>L_staB (vs:=#[I x_8.coef,I x_8.lit]) (cs2:=#[I x_8.coef,I x_8.lit]) 0 rfl Try.sizeOf112 rfl rfl rfl (ones_cons rfl (ones_cons rfl ones_nil)) hst rfl (by show 0 + 2≤2; decide) rfl (fun w23 hst=>nq ?_)))
 obtain ⟨x29,hx29,hB8⟩:=bind_some hB8
 obtain ⟨b51,hb51,hB8⟩:=bind_some hB8
 obtain ⟨R55,hR55⟩:=exR fun f w_=>∃ H53 : FH,Le H6 H53∧f 1 = Pt g3∧f 3 = I i_5∧f 48 = Bo b51∧Star H53 w_ ([box g3 43 #[v0_0,I c.bound]])
 refine W_join R55 ?_ ?_
 rcases Bool.eq_false_or_eq_true (!x29) with hc56 | hc56
 rcases Bool.eq_false_or_eq_true ((!x29) || (decide (x_8.coef < 1))) with hc57 | hc57
 rcases Bool.eq_false_or_eq_true (((!x29) || (decide (x_8.coef < 1))) || (decide (x_8.coef > 1000))) with hc58 | hc58
 rw [ite_t hc58] at hb51
 refine W_drawS 28 [isV (Pq g21 1),isV (I x_8.lit),isV (Bo x29),isV (Bo (!x29)),isV (Bo (!x29)),isV (undef),isV (undef),isV (undef),isV (Bo ((!x29) || (decide (x_8.coef < 1)))),isV (Bo ((!x29) || (decide (x_8.coef < 1)))),isV (undef),isV (undef),isV (undef),isV (Bo (((!x29) || (decide (x_8.coef < 1))) || (decide (x_8.coef > 1000)))),isV (Bo (((!x29) || (decide (x_8.coef < 1))) || (decide (x_8.coef > 1000)))),isV (undef),isV (undef),isV (undef),isV (undef),isV (undef),isV (undef),isV (undef),isV (undef),isV (undef),isV (undef),isV (undef),isV (undef),isV (undef)] [box g21 112 #[I x_8.coef,I x_8.lit],box g3 43 #[v0_0,I c.bound]] [] ([]) [([],[]),([],[]),([],[]),([],[]),([],[]),([],[]),([],[]),([],[]),([],[]),([],[]),([],[]),([],[]),([],[]),([],[]),([],[]),([],[]),([],[]),([],[]),([],[]),([],[]),([],[]),([],[]),([],[]),([],[]),([],[]),([],[]),([],[]),([],[])] (S:=[]) Try_mix (by kernel_rfl) rfl (by kernel_rfl) (amF_cons (mono_V _) (amF_cons (mono_V _) (amF_cons (mono_V _) (amF_cons (mono_V _) (amF_cons (mono_V _) (amF_cons (mono_V _) (amF_cons (mono_V _) (amF_cons (mono_V _) (amF_cons (mono_V _) (amF_cons (mono_V _) (amF_cons (mono_V _) (amF_cons (mono_V _) (amF_cons (mono_V _) (amF_cons (mono_V _) (amF_cons (mono_V _) (amF_cons (mono_V _) (amF_cons (mono_V _) (amF_cons (mono_V _) (amF_cons (mono_V _) (amF_cons (mono_V _) (amF_cons (mono_V _) (amF_cons (mono_V _) (amF_cons (mono_V _) (amF_cons (mono_V _) (amF_cons (mono_V _) (amF_cons (mono_V _) (amF_cons (mono_V _) (amF_cons (mono_V _) amF_nil)))))))))))))))))))))))))))) hst ?_ (fun f w_ H52 hS52 hE52 hT52 hst=>?_)
 refine opsS_cons (fun f w_ _ _ s _ _ hst=>fA 1 fa_112_1 ((s 4 rfl).trans rfl) rfl (nO rfl rfl hst)) (opsS_cons (fun f w_ _ _ _ _ p hst=>ldB 0 hst Try.isAgg3 (p 0 17 rfl rfl) rfl rfl (nO rfl rfl hst)) (opsS_cons ?_ ?_))
 intro f w_ H52 X52 hS52 hE52 hP52 hst
 obtain ⟨H65b,l66,s67,z68,k69⟩:=hst.borrow
 refine L_call rfl Try.call95 (ops1 (hP52 1 18 rfl rfl)) (s_l1Lit_c (n_:=x_8.lit) s67 hx29) ?_
 rintro _ w70 ⟨rfl,hst⟩
 have hst:=k69 hst c0
 exact L_nil ⟨rfl,_,_,rfl,Le.refl _,fun _ _=>rfl,hst⟩
 refine opsS_cons (fun f w_ _ _ _ _ p hst=>L_not_ rfl (p 2 19 rfl rfl) (nO rfl rfl hst)) (opsS_cons (fun f w_ _ _ _ _ p hst=>mF (p 3 20 rfl rfl) rfl (nO rfl rfl hst)) (oP (fun _ _ p=>gN (p 4 21 rfl rfl) hc56 rfl) (fun _=>rfl) (oP (fun _ _ p=>gN (p 4 21 rfl rfl) hc56 rfl) (fun _=>rfl) (oP (fun _ _ p=>gN (p 4 21 rfl rfl) hc56 rfl) (fun _=>rfl) (opsS_cons (fun f w_ _ _ _ _ p hst=>pkT (v:=Bo ((!x29) || (decide (x_8.coef < 1)))) (p 4 21 rfl rfl) hc56 rfl (or_t hc56) (nO rfl rfl hst)) (opsS_cons (fun f w_ _ _ _ _ p hst=>mF (p 8 25 rfl rfl) rfl (nO rfl rfl hst)) (oP (fun _ _ p=>gN (p 9 26 rfl rfl) hc57 rfl) (fun _=>rfl) (oP (fun _ _ p=>gN (p 9 26 rfl rfl) hc57 rfl) (fun _=>rfl) (oP (fun _ _ p=>gN (p 9 26 rfl rfl) hc57 rfl) (fun _=>rfl) (opsS_cons (fun f w_ _ _ _ _ p hst=>pkT (v:=Bo (((!x29) || (decide (x_8.coef < 1))) || (decide (x_8.coef > 1000)))) (p 9 26 rfl rfl) hc57 rfl (or_t hc57) (nO rfl rfl hst)) (opsS_cons (fun f w_ _ _ _ _ p hst=>mF (p 13 30 rfl rfl) rfl (nO rfl rfl hst)) (oP (fun _ _ p=>gN (p 14 31 rfl rfl) hc58 rfl) (fun _=>rfl) (oP (fun _ _ p=>gN (p 14 31 rfl rfl) hc58 rfl) (fun _=>rfl) (oP (fun _ _ p=>gN (p 14 31 rfl rfl) hc58 rfl) (fun _=>rfl) (oP (fun _ _ p=>g_undef rfl (p 17 34 rfl rfl) rfl) (fun _=>rfl) (oP (fun _ _ p=>g_undef rfl (p 17 34 rfl rfl) rfl) (fun _=>rfl) (oP (fun _ _ p=>g_undef rfl (p 17 34 rfl rfl) rfl) (fun _=>rfl) (oP (fun _ _ p=>g_undef rfl (p 17 34 rfl rfl) rfl) (fun _=>rfl) (oP (fun _ _ p=>g_undef rfl (p 17 34 rfl rfl) rfl) (fun _=>rfl) (oP (fun _ _ p=>g_undef rfl (p 17 34 rfl rfl) rfl) (fun _=>rfl) (oP (fun _ _ p=>g_undef rfl (p 17 34 rfl rfl) rfl) (fun _=>rfl) (oP (fun _ _ p=>g_undef rfl (p 17 34 rfl rfl) rfl) (fun _=>rfl) (oP (fun _ _ p=>g_undef rfl (p 17 34 rfl rfl) rfl) (fun _=>rfl) (oP (fun _ _ p=>g_undef rfl (p 17 34 rfl rfl) rfl) (fun _=>rfl) (opsS_nil)))))))))))))))))))))))))
 refine ps (g_undef rfl (hT52 17 34 rfl rfl) rfl) (ps (g_undef rfl (hT52 17 34 rfl rfl) rfl) (ps (g_no rfl (Eq.trans (hT52 14 31 rfl rfl) (congrArg Value.bool hc58)) rfl rfl) (L_pick (v:=Bo b51) rfl (Eq.trans (hT52 14 31 rfl rfl) (congrArg Value.bool hc58)) (congrArg Value.bool (so hb51)) (nn ?_))))
 have hst:=hst.get 1 rfl
 exact rj hR55 ⟨H52,hE52,((hS52 1 rfl).trans sf1),((hS52 3 rfl).trans sf3),rfl,(Star.keepN 1 hst)⟩
 rw [ite_f hc58] at hb51
 obtain ⟨b50,hb50,hb51⟩:=bind_some hb51
 rcases Bool.eq_false_or_eq_true (decide ((i_5 : Int) > 0)) with hc71 | hc71
 rw [ite_t hc71] at hb50
 obtain ⟨x31,hx31,hb50⟩:=bind_some hb50
 obtain ⟨x41,hx41,hb50⟩:=bind_some hb50
 obtain ⟨x48,hx48,hb50⟩:=bind_some hb50
 refine W_drawS 28 [isV (Pq g21 1),isV (I x_8.lit),isV (Bo x29),isV (Bo (!x29)),isV (Bo (!x29)),isV (undef),isV (undef),isV (undef),isV (Bo ((!x29) || (decide (x_8.coef < 1)))),isV (Bo ((!x29) || (decide (x_8.coef < 1)))),isV (undef),isV (undef),isV (undef),isV (Bo (((!x29) || (decide (x_8.coef < 1))) || (decide (x_8.coef > 1000)))),isV (Bo (((!x29) || (decide (x_8.coef < 1))) || (decide (x_8.coef > 1000)))),isV (I i_5),isV (Bo (decide ((i_5 : Int) > 0))),isV (Bo (decide ((i_5 : Int) > 0))),isV (Pt g3),isV (v0_0),isV (I i_5),isV (I (i64 ((i_5 : Int) - 1))),isEl rTerm x31 0,isEl rTerm x31 1,isV (I x31.lit),isV (I x41),isV (Pq g21 1),isV (I x_8.lit)] [box g21 112 #[I x_8.coef,I x_8.lit],box g3 43 #[v0_0,I c.bound]] [] ([]) [([],[]),([],[]),([],[]),([],[]),([],[]),([],[]),([],[]),([],[]),([],[]),([],[]),([],[]),([],[]),([],[]),([],[]),([],[]),([],[]),([],[]),([],[]),([],[]),([],[]),([],[]),([],[]),([],[]),([],[]),([],[]),([],[]),([],[]),([],[])] (S:=[]) Try_mix (by kernel_rfl) rfl (by kernel_rfl) (amF_cons (mono_V _) (amF_cons (mono_V _) (amF_cons (mono_V _) (amF_cons (mono_V _) (amF_cons (mono_V _) (amF_cons (mono_V _) (amF_cons (mono_V _) (amF_cons (mono_V _) (amF_cons (mono_V _) (amF_cons (mono_V _) (amF_cons (mono_V _) (amF_cons (mono_V _) (amF_cons (mono_V _) (amF_cons (mono_V _) (amF_cons (mono_V _) (amF_cons (mono_V _) (amF_cons (mono_V _) (amF_cons (mono_V _) (amF_cons (mono_V _) (amF_cons (mono_V _) (amF_cons (mono_V _) (amF_cons (mono_V _) (amF_cons (mono_el _ _ _) (amF_cons (mono_el _ _ _) (amF_cons (mono_V _) (amF_cons (mono_V _) (amF_cons (mono_V _) (amF_cons (mono_V _) amF_nil)))))))))))))))))))))))))))) hst ?_ (fun f w_ H52 hS52 hE52 hT52 hst=>?_)
 refine opsS_cons (fun f w_ _ _ s _ _ hst=>fA 1 fa_112_1 ((s 4 rfl).trans rfl) rfl (nO rfl rfl hst)) (opsS_cons (fun f w_ _ _ _ _ p hst=>ldB 0 hst Try.isAgg3 (p 0 17 rfl rfl) rfl rfl (nO rfl rfl hst)) (opsS_cons ?_ ?_))
 intro f w_ H52 X52 hS52 hE52 hP52 hst
 obtain ⟨H88b,l89,s90,z91,k92⟩:=hst.borrow
 refine L_call rfl Try.call95 (ops1 (hP52 1 18 rfl rfl)) (s_l1Lit_c (n_:=x_8.lit) s90 hx29) ?_
 rintro _ w93 ⟨rfl,hst⟩
 have hst:=k92 hst c0
 exact L_nil ⟨rfl,_,_,rfl,Le.refl _,fun _ _=>rfl,hst⟩
 refine opsS_cons (fun f w_ _ _ _ _ p hst=>L_not_ rfl (p 2 19 rfl rfl) (nO rfl rfl hst)) (opsS_cons (fun f w_ _ _ _ _ p hst=>mF (p 3 20 rfl rfl) rfl (nO rfl rfl hst)) (oP (fun _ _ p=>gN (p 4 21 rfl rfl) hc56 rfl) (fun _=>rfl) (oP (fun _ _ p=>gN (p 4 21 rfl rfl) hc56 rfl) (fun _=>rfl) (oP (fun _ _ p=>gN (p 4 21 rfl rfl) hc56 rfl) (fun _=>rfl) (opsS_cons (fun f w_ _ _ _ _ p hst=>pkT (v:=Bo ((!x29) || (decide (x_8.coef < 1)))) (p 4 21 rfl rfl) hc56 rfl (or_t hc56) (nO rfl rfl hst)) (opsS_cons (fun f w_ _ _ _ _ p hst=>mF (p 8 25 rfl rfl) rfl (nO rfl rfl hst)) (oP (fun _ _ p=>gN (p 9 26 rfl rfl) hc57 rfl) (fun _=>rfl) (oP (fun _ _ p=>gN (p 9 26 rfl rfl) hc57 rfl) (fun _=>rfl) (oP (fun _ _ p=>gN (p 9 26 rfl rfl) hc57 rfl) (fun _=>rfl) (opsS_cons (fun f w_ _ _ _ _ p hst=>pkT (v:=Bo (((!x29) || (decide (x_8.coef < 1))) || (decide (x_8.coef > 1000)))) (p 9 26 rfl rfl) hc57 rfl (or_t hc57) (nO rfl rfl hst)) (opsS_cons (fun f w_ _ _ _ _ p hst=>mF (p 13 30 rfl rfl) rfl (nO rfl rfl hst)) (opsS_cons (fun f w_ _ _ s _ p hst=>L_mv (v:=I i_5) (g_yes rfl (Eq.trans (p 14 31 rfl rfl) (congrArg Value.bool hc58)) rfl) ((s 3 rfl).trans sf3) (nO rfl rfl hst)) (opsS_cons (fun f w_ _ _ _ _ p hst=>L_gtr (g_yes rfl (Eq.trans (p 14 31 rfl rfl) (congrArg Value.bool hc58)) rfl) (p 15 32 rfl rfl) rfl (nO rfl rfl hst)) (opsS_cons (fun f w_ _ _ _ _ p hst=>L_mv (v:=Bo (decide ((i_5 : Int) > 0))) (g_yes rfl (Eq.trans (p 14 31 rfl rfl) (congrArg Value.bool hc58)) rfl) (p 16 33 rfl rfl) (nO rfl rfl hst)) (opsS_cons (fun f w_ _ _ s _ p hst=>L_fa (o':=0) (g_yes rfl (Eq.trans (p 17 34 rfl rfl) (congrArg Value.bool hc71)) rfl) fa_43_0 ((s 1 rfl).trans sf1) rfl (nO rfl rfl hst)) (opsS_cons (fun f w_ _ _ _ _ p hst=>L_ld (v:=v0_0) (g_yes rfl (Eq.trans (p 17 34 rfl rfl) (congrArg Value.bool hc71)) rfl) Try.isAgg41 (p 18 35 rfl rfl) (At.cell0 (Blk.at (Star.blkAt 1 hst rfl)) (j:=0) rfl) (nO rfl rfl hst)) (opsS_cons (fun f w_ _ _ s _ p hst=>L_mv (v:=I i_5) (g_yes rfl (Eq.trans (p 17 34 rfl rfl) (congrArg Value.bool hc71)) rfl) ((s 3 rfl).trans sf3) (nO rfl rfl hst)) (opsS_cons (fun f w_ _ _ _ _ p hst=>L_sub (g_yes rfl (Eq.trans (p 17 34 rfl rfl) (congrArg Value.bool hc71)) rfl) (p 20 37 rfl rfl) rfl (nO rfl rfl hst)) (opsS_cons ?_ ?_)))))))))))))))))))
 intro f w_ H52 X52 hS52 hE52 hP52 hst
 refine L_ix (r:=rTerm) (g_yes rfl (Eq.trans (hP52 17 34 rfl rfl) (congrArg Value.bool hc71)) rfl) Try.underlying41 Try.sizeOf112 (hP52 19 36 rfl rfl) (RP.mono _ h0_0 (Le.trans l7 hE52)) (hP52 21 38 rfl rfl) hx31 (fun g94 o95 cs_g94 hrk_hat96 hat96=>?_)
 obtain rfl:=rTerm_iff.1 hrk_hat96
 exact L_nil ⟨rfl,_,_,rfl,Le.refl _,fun _ _=>⟨_,_,_,rfl,hrk_hat96,hat96⟩,hst⟩
 refine opsS_cons ?_ ?_
 intro f w_ H52 X52 hS52 hE52 hP52 hst
 obtain ⟨g98,o98,cs98,hv98,hrk_hat98,hat98⟩:=(hP52 22 39 rfl rfl)
 obtain rfl:=rTerm_iff.1 hrk_hat98
 refine L_fa (o':=o98 + 1) (g_yes rfl (Eq.trans (hP52 17 34 rfl rfl) (congrArg Value.bool hc71)) rfl) fa_112_1 hv98 rfl (L_nil ⟨rfl,_,_,rfl,Le.refl _,fun _ _=>⟨_,_,_,rfl,hrk_hat98,hat98⟩,hst⟩)
 refine opsS_cons ?_ ?_
 intro f w_ H52 X52 hS52 hE52 hP52 hst
 obtain ⟨g100,o100,cs100,hv100,hrk_hat100,hat100⟩:=(hP52 23 40 rfl rfl)
 obtain rfl:=rTerm_iff.1 hrk_hat100
 refine L_ld (v:=I x31.lit) (g_yes rfl (Eq.trans (hP52 17 34 rfl rfl) (congrArg Value.bool hc71)) rfl) Try.isAgg3 hv100 (At.cell (AtH.at hat100 hst.sub) (j:=1) rfl) (L_nil ⟨rfl,_,_,rfl,Le.refl _,fun _ _=>rfl,hst⟩)
 refine opsS_cons ?_ ?_
 intro f w_ H52 X52 hS52 hE52 hP52 hst
 obtain ⟨H102b,l103,s104,z105,k106⟩:=hst.borrow
 refine L_call (g_yes rfl (Eq.trans (hP52 17 34 rfl rfl) (congrArg Value.bool hc71)) rfl) Try.call96 (ops1 (hP52 24 41 rfl rfl)) (s_l1Abs_c (n_:=x31.lit) s104 hx41) ?_
 rintro _ w107 ⟨rfl,hst⟩
 have hst:=k106 hst c0
 exact L_nil ⟨rfl,_,_,rfl,Le.refl _,fun _ _=>rfl,hst⟩
 refine opsS_cons (fun f w_ _ _ s _ p hst=>L_fa (o':=1) (g_yes rfl (Eq.trans (p 17 34 rfl rfl) (congrArg Value.bool hc71)) rfl) fa_112_1 ((s 4 rfl).trans rfl) rfl (nO rfl rfl hst)) (opsS_cons (fun f w_ _ _ _ _ p hst=>L_ld (v:=I x_8.lit) (g_yes rfl (Eq.trans (p 17 34 rfl rfl) (congrArg Value.bool hc71)) rfl) Try.isAgg3 (p 26 43 rfl rfl) (At.cell0 (Blk.at (Star.blkAt 0 hst rfl)) (j:=1) rfl) (nO rfl rfl hst)) (opsS_nil))
 obtain ⟨H108b,l109,s110,z111,k112⟩:=hst.borrow
 refine L_call (g_yes rfl (Eq.trans (hT52 17 34 rfl rfl) (congrArg Value.bool hc71)) rfl) Try.call96 (ops1 (hT52 27 44 rfl rfl)) (s_l1Abs_c (n_:=x_8.lit) s110 hx48) ?_
 rintro _ w113 ⟨rfl,hst⟩
 have hst:=k112 hst c0
 refine L_geq (g_yes rfl (Eq.trans (hT52 17 34 rfl rfl) (congrArg Value.bool hc71)) rfl) (hT52 25 42 rfl rfl) rfl (L_pick (v:=Bo b50) (g_yes rfl (Eq.trans (hT52 14 31 rfl rfl) (congrArg Value.bool hc58)) rfl) (Eq.trans (hT52 17 34 rfl rfl) (congrArg Value.bool hc71)) (congrArg Value.bool (so hb50)) (L_pick (v:=Bo b51) rfl (Eq.trans (hT52 14 31 rfl rfl) (congrArg Value.bool hc58)) (congrArg Value.bool (so hb51)) (nn ?_)))
 have hst:=hst.get 1 rfl
 exact rj hR55 ⟨H52,hE52,((hS52 1 rfl).trans sf1),((hS52 3 rfl).trans sf3),rfl,(Star.keepN 1 hst)⟩
 rw [ite_f hc71] at hb50
 refine W_drawS 28 [isV (Pq g21 1),isV (I x_8.lit),isV (Bo x29),isV (Bo (!x29)),isV (Bo (!x29)),isV (undef),isV (undef),isV (undef),isV (Bo ((!x29) || (decide (x_8.coef < 1)))),isV (Bo ((!x29) || (decide (x_8.coef < 1)))),isV (undef),isV (undef),isV (undef),isV (Bo (((!x29) || (decide (x_8.coef < 1))) || (decide (x_8.coef > 1000)))),isV (Bo (((!x29) || (decide (x_8.coef < 1))) || (decide (x_8.coef > 1000)))),isV (I i_5),isV (Bo (decide ((i_5 : Int) > 0))),isV (Bo (decide ((i_5 : Int) > 0))),isV (undef),isV (undef),isV (undef),isV (undef),isV (undef),isV (undef),isV (undef),isV (undef),isV (undef),isV (undef)] [box g21 112 #[I x_8.coef,I x_8.lit],box g3 43 #[v0_0,I c.bound]] [] ([]) [([],[]),([],[]),([],[]),([],[]),([],[]),([],[]),([],[]),([],[]),([],[]),([],[]),([],[]),([],[]),([],[]),([],[]),([],[]),([],[]),([],[]),([],[]),([],[]),([],[]),([],[]),([],[]),([],[]),([],[]),([],[]),([],[]),([],[]),([],[])] (S:=[]) Try_mix (by kernel_rfl) rfl (by kernel_rfl) (amF_cons (mono_V _) (amF_cons (mono_V _) (amF_cons (mono_V _) (amF_cons (mono_V _) (amF_cons (mono_V _) (amF_cons (mono_V _) (amF_cons (mono_V _) (amF_cons (mono_V _) (amF_cons (mono_V _) (amF_cons (mono_V _) (amF_cons (mono_V _) (amF_cons (mono_V _) (amF_cons (mono_V _) (amF_cons (mono_V _) (amF_cons (mono_V _) (amF_cons (mono_V _) (amF_cons (mono_V _) (amF_cons (mono_V _) (amF_cons (mono_V _) (amF_cons (mono_V _) (amF_cons (mono_V _) (amF_cons (mono_V _) (amF_cons (mono_V _) (amF_cons (mono_V _) (amF_cons (mono_V _) (amF_cons (mono_V _) (amF_cons (mono_V _) (amF_cons (mono_V _) amF_nil)))))))))))))))))))))))))))) hst ?_ (fun f w_ H52 hS52 hE52 hT52 hst=>?_)
 refine opsS_cons (fun f w_ _ _ s _ _ hst=>fA 1 fa_112_1 ((s 4 rfl).trans rfl) rfl (nO rfl rfl hst)) (opsS_cons (fun f w_ _ _ _ _ p hst=>ldB 0 hst Try.isAgg3 (p 0 17 rfl rfl) rfl rfl (nO rfl rfl hst)) (opsS_cons ?_ ?_))
 intro f w_ H52 X52 hS52 hE52 hP52 hst
 obtain ⟨H120b,l121,s122,z123,k124⟩:=hst.borrow
 refine L_call rfl Try.call95 (ops1 (hP52 1 18 rfl rfl)) (s_l1Lit_c (n_:=x_8.lit) s122 hx29) ?_
 rintro _ w125 ⟨rfl,hst⟩
 have hst:=k124 hst c0
 exact L_nil ⟨rfl,_,_,rfl,Le.refl _,fun _ _=>rfl,hst⟩
 refine opsS_cons (fun f w_ _ _ _ _ p hst=>L_not_ rfl (p 2 19 rfl rfl) (nO rfl rfl hst)) (opsS_cons (fun f w_ _ _ _ _ p hst=>mF (p 3 20 rfl rfl) rfl (nO rfl rfl hst)) (oP (fun _ _ p=>gN (p 4 21 rfl rfl) hc56 rfl) (fun _=>rfl) (oP (fun _ _ p=>gN (p 4 21 rfl rfl) hc56 rfl) (fun _=>rfl) (oP (fun _ _ p=>gN (p 4 21 rfl rfl) hc56 rfl) (fun _=>rfl) (opsS_cons (fun f w_ _ _ _ _ p hst=>pkT (v:=Bo ((!x29) || (decide (x_8.coef < 1)))) (p 4 21 rfl rfl) hc56 rfl (or_t hc56) (nO rfl rfl hst)) (opsS_cons (fun f w_ _ _ _ _ p hst=>mF (p 8 25 rfl rfl) rfl (nO rfl rfl hst)) (oP (fun _ _ p=>gN (p 9 26 rfl rfl) hc57 rfl) (fun _=>rfl) (oP (fun _ _ p=>gN (p 9 26 rfl rfl) hc57 rfl) (fun _=>rfl) (oP (fun _ _ p=>gN (p 9 26 rfl rfl) hc57 rfl) (fun _=>rfl) (opsS_cons (fun f w_ _ _ _ _ p hst=>pkT (v:=Bo (((!x29) || (decide (x_8.coef < 1))) || (decide (x_8.coef > 1000)))) (p 9 26 rfl rfl) hc57 rfl (or_t hc57) (nO rfl rfl hst)) (opsS_cons (fun f w_ _ _ _ _ p hst=>mF (p 13 30 rfl rfl) rfl (nO rfl rfl hst)) (opsS_cons (fun f w_ _ _ s _ p hst=>L_mv (v:=I i_5) (g_yes rfl (Eq.trans (p 14 31 rfl rfl) (congrArg Value.bool hc58)) rfl) ((s 3 rfl).trans sf3) (nO rfl rfl hst)) (opsS_cons (fun f w_ _ _ _ _ p hst=>L_gtr (g_yes rfl (Eq.trans (p 14 31 rfl rfl) (congrArg Value.bool hc58)) rfl) (p 15 32 rfl rfl) rfl (nO rfl rfl hst)) (opsS_cons (fun f w_ _ _ _ _ p hst=>L_mv (v:=Bo (decide ((i_5 : Int) > 0))) (g_yes rfl (Eq.trans (p 14 31 rfl rfl) (congrArg Value.bool hc58)) rfl) (p 16 33 rfl rfl) (nO rfl rfl hst)) (oP (fun _ _ p=>gN (p 17 34 rfl rfl) hc71 rfl) (fun _=>rfl) (oP (fun _ _ p=>gN (p 17 34 rfl rfl) hc71 rfl) (fun _=>rfl) (oP (fun _ _ p=>gN (p 17 34 rfl rfl) hc71 rfl) (fun _=>rfl) (oP (fun _ _ p=>gN (p 17 34 rfl rfl) hc71 rfl) (fun _=>rfl) (oP (fun _ _ p=>gN (p 17 34 rfl rfl) hc71 rfl) (fun _=>rfl) (oP (fun _ _ p=>gN (p 17 34 rfl rfl) hc71 rfl) (fun _=>rfl) (oP (fun _ _ p=>gN (p 17 34 rfl rfl) hc71 rfl) (fun _=>rfl) (oP (fun _ _ p=>gN (p 17 34 rfl rfl) hc71 rfl) (fun _=>rfl) (oP (fun _ _ p=>gN (p 17 34 rfl rfl) hc71 rfl) (fun _=>rfl) (oP (fun _ _ p=>gN (p 17 34 rfl rfl) hc71 rfl) (fun _=>rfl) (opsS_nil)))))))))))))))))))))))))
 refine ps (g_no rfl (Eq.trans (hT52 17 34 rfl rfl) (congrArg Value.bool hc71)) rfl rfl) (ps (g_no rfl (Eq.trans (hT52 17 34 rfl rfl) (congrArg Value.bool hc71)) rfl rfl) (L_pick (v:=Bo b50) (g_yes rfl (Eq.trans (hT52 14 31 rfl rfl) (congrArg Value.bool hc58)) rfl) (Eq.trans (hT52 17 34 rfl rfl) (congrArg Value.bool hc71)) (congrArg Value.bool (so hb50)) (L_pick (v:=Bo b51) rfl (Eq.trans (hT52 14 31 rfl rfl) (congrArg Value.bool hc58)) (congrArg Value.bool (so hb51)) (nn ?_))))
 have hst:=hst.get 1 rfl
 exact rj hR55 ⟨H52,hE52,((hS52 1 rfl).trans sf1),((hS52 3 rfl).trans sf3),rfl,(Star.keepN 1 hst)⟩
 rcases Bool.eq_false_or_eq_true (((!x29) || (decide (x_8.coef < 1))) || (decide (x_8.coef > 1000))) with hc126 | hc126
 rw [ite_t hc126] at hb51
 refine W_drawS 28 [isV (Pq g21 1),isV (I x_8.lit),isV (Bo x29),isV (Bo (!x29)),isV (Bo (!x29)),isV (undef),isV (undef),isV (undef),isV (Bo ((!x29) || (decide (x_8.coef < 1)))),isV (Bo ((!x29) || (decide (x_8.coef < 1)))),isV (Pt g21),isV (I x_8.coef),isV (Bo (decide (x_8.coef > 1000))),isV (Bo (((!x29) || (decide (x_8.coef < 1))) || (decide (x_8.coef > 1000)))),isV (Bo (((!x29) || (decide (x_8.coef < 1))) || (decide (x_8.coef > 1000)))),isV (undef),isV (undef),isV (undef),isV (undef),isV (undef),isV (undef),isV (undef),isV (undef),isV (undef),isV (undef),isV (undef),isV (undef),isV (undef)] [box g21 112 #[I x_8.coef,I x_8.lit],box g3 43 #[v0_0,I c.bound]] [] ([]) [([],[]),([],[]),([],[]),([],[]),([],[]),([],[]),([],[]),([],[]),([],[]),([],[]),([],[]),([],[]),([],[]),([],[]),([],[]),([],[]),([],[]),([],[]),([],[]),([],[]),([],[]),([],[]),([],[]),([],[]),([],[]),([],[]),([],[]),([],[])] (S:=[]) Try_mix (by kernel_rfl) rfl (by kernel_rfl) (amF_cons (mono_V _) (amF_cons (mono_V _) (amF_cons (mono_V _) (amF_cons (mono_V _) (amF_cons (mono_V _) (amF_cons (mono_V _) (amF_cons (mono_V _) (amF_cons (mono_V _) (amF_cons (mono_V _) (amF_cons (mono_V _) (amF_cons (mono_V _) (amF_cons (mono_V _) (amF_cons (mono_V _) (amF_cons (mono_V _) (amF_cons (mono_V _) (amF_cons (mono_V _) (amF_cons (mono_V _) (amF_cons (mono_V _) (amF_cons (mono_V _) (amF_cons (mono_V _) (amF_cons (mono_V _) (amF_cons (mono_V _) (amF_cons (mono_V _) (amF_cons (mono_V _) (amF_cons (mono_V _) (amF_cons (mono_V _) (amF_cons (mono_V _) (amF_cons (mono_V _) amF_nil)))))))))))))))))))))))))))) hst ?_ (fun f w_ H52 hS52 hE52 hT52 hst=>?_)
 refine opsS_cons (fun f w_ _ _ s _ _ hst=>fA 1 fa_112_1 ((s 4 rfl).trans rfl) rfl (nO rfl rfl hst)) (opsS_cons (fun f w_ _ _ _ _ p hst=>ldB 0 hst Try.isAgg3 (p 0 17 rfl rfl) rfl rfl (nO rfl rfl hst)) (opsS_cons ?_ ?_))
 intro f w_ H52 X52 hS52 hE52 hP52 hst
 obtain ⟨H133b,l134,s135,z136,k137⟩:=hst.borrow
 refine L_call rfl Try.call95 (ops1 (hP52 1 18 rfl rfl)) (s_l1Lit_c (n_:=x_8.lit) s135 hx29) ?_
 rintro _ w138 ⟨rfl,hst⟩
 have hst:=k137 hst c0
 exact L_nil ⟨rfl,_,_,rfl,Le.refl _,fun _ _=>rfl,hst⟩
 refine opsS_cons (fun f w_ _ _ _ _ p hst=>L_not_ rfl (p 2 19 rfl rfl) (nO rfl rfl hst)) (opsS_cons (fun f w_ _ _ _ _ p hst=>mF (p 3 20 rfl rfl) rfl (nO rfl rfl hst)) (oP (fun _ _ p=>gN (p 4 21 rfl rfl) hc56 rfl) (fun _=>rfl) (oP (fun _ _ p=>gN (p 4 21 rfl rfl) hc56 rfl) (fun _=>rfl) (oP (fun _ _ p=>gN (p 4 21 rfl rfl) hc56 rfl) (fun _=>rfl) (opsS_cons (fun f w_ _ _ _ _ p hst=>pkT (v:=Bo ((!x29) || (decide (x_8.coef < 1)))) (p 4 21 rfl rfl) hc56 rfl (or_t hc56) (nO rfl rfl hst)) (opsS_cons (fun f w_ _ _ _ _ p hst=>mF (p 8 25 rfl rfl) rfl (nO rfl rfl hst)) (opsS_cons (fun f w_ _ _ s _ p hst=>L_fa (o':=0) (g_yes rfl (Eq.trans (p 9 26 rfl rfl) (congrArg Value.bool hc57)) rfl) fa_112_0 ((s 4 rfl).trans rfl) rfl (nO rfl rfl hst)) (opsS_cons (fun f w_ _ _ _ _ p hst=>L_ld (v:=I x_8.coef) (g_yes rfl (Eq.trans (p 9 26 rfl rfl) (congrArg Value.bool hc57)) rfl) Try.isAgg3 (p 10 27 rfl rfl) (At.cell0 (Blk.at (Star.blkAt 0 hst rfl)) (j:=0) rfl) (nO rfl rfl hst)) (opsS_cons (fun f w_ _ _ _ _ p hst=>L_gtr (g_yes rfl (Eq.trans (p 9 26 rfl rfl) (congrArg Value.bool hc57)) rfl) (p 11 28 rfl rfl) rfl (nO rfl rfl hst)) (opsS_cons (fun f w_ _ _ _ _ p hst=>pkT (v:=Bo (((!x29) || (decide (x_8.coef < 1))) || (decide (x_8.coef > 1000)))) (p 9 26 rfl rfl) hc57 rfl (or_f hc57 (p 12 29 rfl rfl)) (nO rfl rfl hst)) (opsS_cons (fun f w_ _ _ _ _ p hst=>mF (p 13 30 rfl rfl) rfl (nO rfl rfl hst)) (oP (fun _ _ p=>gN (p 14 31 rfl rfl) hc126 rfl) (fun _=>rfl) (oP (fun _ _ p=>gN (p 14 31 rfl rfl) hc126 rfl) (fun _=>rfl) (oP (fun _ _ p=>gN (p 14 31 rfl rfl) hc126 rfl) (fun _=>rfl) (oP (fun _ _ p=>g_undef rfl (p 17 34 rfl rfl) rfl) (fun _=>rfl) (oP (fun _ _ p=>g_undef rfl (p 17 34 rfl rfl) rfl) (fun _=>rfl) (oP (fun _ _ p=>g_undef rfl (p 17 34 rfl rfl) rfl) (fun _=>rfl) (oP (fun _ _ p=>g_undef rfl (p 17 34 rfl rfl) rfl) (fun _=>rfl) (oP (fun _ _ p=>g_undef rfl (p 17 34 rfl rfl) rfl) (fun _=>rfl) (oP (fun _ _ p=>g_undef rfl (p 17 34 rfl rfl) rfl) (fun _=>rfl) (oP (fun _ _ p=>g_undef rfl (p 17 34 rfl rfl) rfl) (fun _=>rfl) (oP (fun _ _ p=>g_undef rfl (p 17 34 rfl rfl) rfl) (fun _=>rfl) (oP (fun _ _ p=>g_undef rfl (p 17 34 rfl rfl) rfl) (fun _=>rfl) (oP (fun _ _ p=>g_undef rfl (p 17 34 rfl rfl) rfl) (fun _=>rfl) (opsS_nil)))))))))))))))))))))))))
 refine ps (g_undef rfl (hT52 17 34 rfl rfl) rfl) (ps (g_undef rfl (hT52 17 34 rfl rfl) rfl) (ps (g_no rfl (Eq.trans (hT52 14 31 rfl rfl) (congrArg Value.bool hc126)) rfl rfl) (L_pick (v:=Bo b51) rfl (Eq.trans (hT52 14 31 rfl rfl) (congrArg Value.bool hc126)) (congrArg Value.bool (so hb51)) (nn ?_))))
 have hst:=hst.get 1 rfl
 exact rj hR55 ⟨H52,hE52,((hS52 1 rfl).trans sf1),((hS52 3 rfl).trans sf3),rfl,(Star.keepN 1 hst)⟩
 rw [ite_f hc126] at hb51
 obtain ⟨b50,hb50,hb51⟩:=bind_some hb51
 rcases Bool.eq_false_or_eq_true (decide ((i_5 : Int) > 0)) with hc139 | hc139
 rw [ite_t hc139] at hb50
 obtain ⟨x31,hx31,hb50⟩:=bind_some hb50
 obtain ⟨x41,hx41,hb50⟩:=bind_some hb50
 obtain ⟨x48,hx48,hb50⟩:=bind_some hb50
 refine W_drawS 28 [isV (Pq g21 1),isV (I x_8.lit),isV (Bo x29),isV (Bo (!x29)),isV (Bo (!x29)),isV (undef),isV (undef),isV (undef),isV (Bo ((!x29) || (decide (x_8.coef < 1)))),isV (Bo ((!x29) || (decide (x_8.coef < 1)))),isV (Pt g21),isV (I x_8.coef),isV (Bo (decide (x_8.coef > 1000))),isV (Bo (((!x29) || (decide (x_8.coef < 1))) || (decide (x_8.coef > 1000)))),isV (Bo (((!x29) || (decide (x_8.coef < 1))) || (decide (x_8.coef > 1000)))),isV (I i_5),isV (Bo (decide ((i_5 : Int) > 0))),isV (Bo (decide ((i_5 : Int) > 0))),isV (Pt g3),isV (v0_0),isV (I i_5),isV (I (i64 ((i_5 : Int) - 1))),isEl rTerm x31 0,isEl rTerm x31 1,isV (I x31.lit),isV (I x41),isV (Pq g21 1),isV (I x_8.lit)] [box g21 112 #[I x_8.coef,I x_8.lit],box g3 43 #[v0_0,I c.bound]] [] ([]) [([],[]),([],[]),([],[]),([],[]),([],[]),([],[]),([],[]),([],[]),([],[]),([],[]),([],[]),([],[]),([],[]),([],[]),([],[]),([],[]),([],[]),([],[]),([],[]),([],[]),([],[]),([],[]),([],[]),([],[]),([],[]),([],[]),([],[]),([],[])] (S:=[]) Try_mix (by kernel_rfl) rfl (by kernel_rfl) (amF_cons (mono_V _) (amF_cons (mono_V _) (amF_cons (mono_V _) (amF_cons (mono_V _) (amF_cons (mono_V _) (amF_cons (mono_V _) (amF_cons (mono_V _) (amF_cons (mono_V _) (amF_cons (mono_V _) (amF_cons (mono_V _) (amF_cons (mono_V _) (amF_cons (mono_V _) (amF_cons (mono_V _) (amF_cons (mono_V _) (amF_cons (mono_V _) (amF_cons (mono_V _) (amF_cons (mono_V _) (amF_cons (mono_V _) (amF_cons (mono_V _) (amF_cons (mono_V _) (amF_cons (mono_V _) (amF_cons (mono_V _) (amF_cons (mono_el _ _ _) (amF_cons (mono_el _ _ _) (amF_cons (mono_V _) (amF_cons (mono_V _) (amF_cons (mono_V _) (amF_cons (mono_V _) amF_nil)))))))))))))))))))))))))))) hst ?_ (fun f w_ H52 hS52 hE52 hT52 hst=>?_)
 refine opsS_cons (fun f w_ _ _ s _ _ hst=>fA 1 fa_112_1 ((s 4 rfl).trans rfl) rfl (nO rfl rfl hst)) (opsS_cons (fun f w_ _ _ _ _ p hst=>ldB 0 hst Try.isAgg3 (p 0 17 rfl rfl) rfl rfl (nO rfl rfl hst)) (opsS_cons ?_ ?_))
 intro f w_ H52 X52 hS52 hE52 hP52 hst
 obtain ⟨H156b,l157,s158,z159,k160⟩:=hst.borrow
 refine L_call rfl Try.call95 (ops1 (hP52 1 18 rfl rfl)) (s_l1Lit_c (n_:=x_8.lit) s158 hx29) ?_
 rintro _ w161 ⟨rfl,hst⟩
 have hst:=k160 hst c0
 exact L_nil ⟨rfl,_,_,rfl,Le.refl _,fun _ _=>rfl,hst⟩
 refine opsS_cons (fun f w_ _ _ _ _ p hst=>L_not_ rfl (p 2 19 rfl rfl) (nO rfl rfl hst)) (opsS_cons (fun f w_ _ _ _ _ p hst=>mF (p 3 20 rfl rfl) rfl (nO rfl rfl hst)) (oP (fun _ _ p=>gN (p 4 21 rfl rfl) hc56 rfl) (fun _=>rfl) (oP (fun _ _ p=>gN (p 4 21 rfl rfl) hc56 rfl) (fun _=>rfl) (oP (fun _ _ p=>gN (p 4 21 rfl rfl) hc56 rfl) (fun _=>rfl) (opsS_cons (fun f w_ _ _ _ _ p hst=>pkT (v:=Bo ((!x29) || (decide (x_8.coef < 1)))) (p 4 21 rfl rfl) hc56 rfl (or_t hc56) (nO rfl rfl hst)) (opsS_cons (fun f w_ _ _ _ _ p hst=>mF (p 8 25 rfl rfl) rfl (nO rfl rfl hst)) (opsS_cons (fun f w_ _ _ s _ p hst=>L_fa (o':=0) (g_yes rfl (Eq.trans (p 9 26 rfl rfl) (congrArg Value.bool hc57)) rfl) fa_112_0 ((s 4 rfl).trans rfl) rfl (nO rfl rfl hst)) (opsS_cons (fun f w_ _ _ _ _ p hst=>L_ld (v:=I x_8.coef) (g_yes rfl (Eq.trans (p 9 26 rfl rfl) (congrArg Value.bool hc57)) rfl) Try.isAgg3 (p 10 27 rfl rfl) (At.cell0 (Blk.at (Star.blkAt 0 hst rfl)) (j:=0) rfl) (nO rfl rfl hst)) (opsS_cons (fun f w_ _ _ _ _ p hst=>L_gtr (g_yes rfl (Eq.trans (p 9 26 rfl rfl) (congrArg Value.bool hc57)) rfl) (p 11 28 rfl rfl) rfl (nO rfl rfl hst)) (opsS_cons (fun f w_ _ _ _ _ p hst=>pkT (v:=Bo (((!x29) || (decide (x_8.coef < 1))) || (decide (x_8.coef > 1000)))) (p 9 26 rfl rfl) hc57 rfl (or_f hc57 (p 12 29 rfl rfl)) (nO rfl rfl hst)) (opsS_cons (fun f w_ _ _ _ _ p hst=>mF (p 13 30 rfl rfl) rfl (nO rfl rfl hst)) (opsS_cons (fun f w_ _ _ s _ p hst=>L_mv (v:=I i_5) (g_yes rfl (Eq.trans (p 14 31 rfl rfl) (congrArg Value.bool hc126)) rfl) ((s 3 rfl).trans sf3) (nO rfl rfl hst)) (opsS_cons (fun f w_ _ _ _ _ p hst=>L_gtr (g_yes rfl (Eq.trans (p 14 31 rfl rfl) (congrArg Value.bool hc126)) rfl) (p 15 32 rfl rfl) rfl (nO rfl rfl hst)) (opsS_cons (fun f w_ _ _ _ _ p hst=>L_mv (v:=Bo (decide ((i_5 : Int) > 0))) (g_yes rfl (Eq.trans (p 14 31 rfl rfl) (congrArg Value.bool hc126)) rfl) (p 16 33 rfl rfl) (nO rfl rfl hst)) (opsS_cons (fun f w_ _ _ s _ p hst=>L_fa (o':=0) (g_yes rfl (Eq.trans (p 17 34 rfl rfl) (congrArg Value.bool hc139)) rfl) fa_43_0 ((s 1 rfl).trans sf1) rfl (nO rfl rfl hst)) (opsS_cons (fun f w_ _ _ _ _ p hst=>L_ld (v:=v0_0) (g_yes rfl (Eq.trans (p 17 34 rfl rfl) (congrArg Value.bool hc139)) rfl) Try.isAgg41 (p 18 35 rfl rfl) (At.cell0 (Blk.at (Star.blkAt 1 hst rfl)) (j:=0) rfl) (nO rfl rfl hst)) (opsS_cons (fun f w_ _ _ s _ p hst=>L_mv (v:=I i_5) (g_yes rfl (Eq.trans (p 17 34 rfl rfl) (congrArg Value.bool hc139)) rfl) ((s 3 rfl).trans sf3) (nO rfl rfl hst)) (opsS_cons (fun f w_ _ _ _ _ p hst=>L_sub (g_yes rfl (Eq.trans (p 17 34 rfl rfl) (congrArg Value.bool hc139)) rfl) (p 20 37 rfl rfl) rfl (nO rfl rfl hst)) (opsS_cons ?_ ?_)))))))))))))))))))
 intro f w_ H52 X52 hS52 hE52 hP52 hst
 refine L_ix (r:=rTerm) (g_yes rfl (Eq.trans (hP52 17 34 rfl rfl) (congrArg Value.bool hc139)) rfl) Try.underlying41 Try.sizeOf112 (hP52 19 36 rfl rfl) (RP.mono _ h0_0 (Le.trans l7 hE52)) (hP52 21 38 rfl rfl) hx31 (fun g162 o163 cs_g162 hrk_hat164 hat164=>?_)
 obtain rfl:=rTerm_iff.1 hrk_hat164
 exact L_nil ⟨rfl,_,_,rfl,Le.refl _,fun _ _=>⟨_,_,_,rfl,hrk_hat164,hat164⟩,hst⟩
 refine opsS_cons ?_ ?_
 intro f w_ H52 X52 hS52 hE52 hP52 hst
 obtain ⟨g166,o166,cs166,hv166,hrk_hat166,hat166⟩:=(hP52 22 39 rfl rfl)
 obtain rfl:=rTerm_iff.1 hrk_hat166
 refine L_fa (o':=o166 + 1) (g_yes rfl (Eq.trans (hP52 17 34 rfl rfl) (congrArg Value.bool hc139)) rfl) fa_112_1 hv166 rfl (L_nil ⟨rfl,_,_,rfl,Le.refl _,fun _ _=>⟨_,_,_,rfl,hrk_hat166,hat166⟩,hst⟩)
 refine opsS_cons ?_ ?_
 intro f w_ H52 X52 hS52 hE52 hP52 hst
 obtain ⟨g168,o168,cs168,hv168,hrk_hat168,hat168⟩:=(hP52 23 40 rfl rfl)
 obtain rfl:=rTerm_iff.1 hrk_hat168
 refine L_ld (v:=I x31.lit) (g_yes rfl (Eq.trans (hP52 17 34 rfl rfl) (congrArg Value.bool hc139)) rfl) Try.isAgg3 hv168 (At.cell (AtH.at hat168 hst.sub) (j:=1) rfl) (L_nil ⟨rfl,_,_,rfl,Le.refl _,fun _ _=>rfl,hst⟩)
 refine opsS_cons ?_ ?_
 intro f w_ H52 X52 hS52 hE52 hP52 hst
 obtain ⟨H170b,l171,s172,z173,k174⟩:=hst.borrow
 refine L_call (g_yes rfl (Eq.trans (hP52 17 34 rfl rfl) (congrArg Value.bool hc139)) rfl) Try.call96 (ops1 (hP52 24 41 rfl rfl)) (s_l1Abs_c (n_:=x31.lit) s172 hx41) ?_
 rintro _ w175 ⟨rfl,hst⟩
 have hst:=k174 hst c0
 exact L_nil ⟨rfl,_,_,rfl,Le.refl _,fun _ _=>rfl,hst⟩
 refine opsS_cons (fun f w_ _ _ s _ p hst=>L_fa (o':=1) (g_yes rfl (Eq.trans (p 17 34 rfl rfl) (congrArg Value.bool hc139)) rfl) fa_112_1 ((s 4 rfl).trans rfl) rfl (nO rfl rfl hst)) (opsS_cons (fun f w_ _ _ _ _ p hst=>L_ld (v:=I x_8.lit) (g_yes rfl (Eq.trans (p 17 34 rfl rfl) (congrArg Value.bool hc139)) rfl) Try.isAgg3 (p 26 43 rfl rfl) (At.cell0 (Blk.at (Star.blkAt 0 hst rfl)) (j:=1) rfl) (nO rfl rfl hst)) (opsS_nil))
 obtain ⟨H176b,l177,s178,z179,k180⟩:=hst.borrow
 refine L_call (g_yes rfl (Eq.trans (hT52 17 34 rfl rfl) (congrArg Value.bool hc139)) rfl) Try.call96 (ops1 (hT52 27 44 rfl rfl)) (s_l1Abs_c (n_:=x_8.lit) s178 hx48) ?_
 rintro _ w181 ⟨rfl,hst⟩
 have hst:=k180 hst c0
 refine L_geq (g_yes rfl (Eq.trans (hT52 17 34 rfl rfl) (congrArg Value.bool hc139)) rfl) (hT52 25 42 rfl rfl) rfl (L_pick (v:=Bo b50) (g_yes rfl (Eq.trans (hT52 14 31 rfl rfl) (congrArg Value.bool hc126)) rfl) (Eq.trans (hT52 17 34 rfl rfl) (congrArg Value.bool hc139)) (congrArg Value.bool (so hb50)) (L_pick (v:=Bo b51) rfl (Eq.trans (hT52 14 31 rfl rfl) (congrArg Value.bool hc126)) (congrArg Value.bool (so hb51)) (nn ?_)))
 have hst:=hst.get 1 rfl
 exact rj hR55 ⟨H52,hE52,((hS52 1 rfl).trans sf1),((hS52 3 rfl).trans sf3),rfl,(Star.keepN 1 hst)⟩
 rw [ite_f hc139] at hb50
 refine W_drawS 28 [isV (Pq g21 1),isV (I x_8.lit),isV (Bo x29),isV (Bo (!x29)),isV (Bo (!x29)),isV (undef),isV (undef),isV (undef),isV (Bo ((!x29) || (decide (x_8.coef < 1)))),isV (Bo ((!x29) || (decide (x_8.coef < 1)))),isV (Pt g21),isV (I x_8.coef),isV (Bo (decide (x_8.coef > 1000))),isV (Bo (((!x29) || (decide (x_8.coef < 1))) || (decide (x_8.coef > 1000)))),isV (Bo (((!x29) || (decide (x_8.coef < 1))) || (decide (x_8.coef > 1000)))),isV (I i_5),isV (Bo (decide ((i_5 : Int) > 0))),isV (Bo (decide ((i_5 : Int) > 0))),isV (undef),isV (undef),isV (undef),isV (undef),isV (undef),isV (undef),isV (undef),isV (undef),isV (undef),isV (undef)] [box g21 112 #[I x_8.coef,I x_8.lit],box g3 43 #[v0_0,I c.bound]] [] ([]) [([],[]),([],[]),([],[]),([],[]),([],[]),([],[]),([],[]),([],[]),([],[]),([],[]),([],[]),([],[]),([],[]),([],[]),([],[]),([],[]),([],[]),([],[]),([],[]),([],[]),([],[]),([],[]),([],[]),([],[]),([],[]),([],[]),([],[]),([],[])] (S:=[]) Try_mix (by kernel_rfl) rfl (by kernel_rfl) (amF_cons (mono_V _) (amF_cons (mono_V _) (amF_cons (mono_V _) (amF_cons (mono_V _) (amF_cons (mono_V _) (amF_cons (mono_V _) (amF_cons (mono_V _) (amF_cons (mono_V _) (amF_cons (mono_V _) (amF_cons (mono_V _) (amF_cons (mono_V _) (amF_cons (mono_V _) (amF_cons (mono_V _) (amF_cons (mono_V _) (amF_cons (mono_V _) (amF_cons (mono_V _) (amF_cons (mono_V _) (amF_cons (mono_V _) (amF_cons (mono_V _) (amF_cons (mono_V _) (amF_cons (mono_V _) (amF_cons (mono_V _) (amF_cons (mono_V _) (amF_cons (mono_V _) (amF_cons (mono_V _) (amF_cons (mono_V _) (amF_cons (mono_V _) (amF_cons (mono_V _) amF_nil)))))))))))))))))))))))))))) hst ?_ (fun f w_ H52 hS52 hE52 hT52 hst=>?_)
 refine opsS_cons (fun f w_ _ _ s _ _ hst=>fA 1 fa_112_1 ((s 4 rfl).trans rfl) rfl (nO rfl rfl hst)) (opsS_cons (fun f w_ _ _ _ _ p hst=>ldB 0 hst Try.isAgg3 (p 0 17 rfl rfl) rfl rfl (nO rfl rfl hst)) (opsS_cons ?_ ?_))
 intro f w_ H52 X52 hS52 hE52 hP52 hst
 obtain ⟨H188b,l189,s190,z191,k192⟩:=hst.borrow
 refine L_call rfl Try.call95 (ops1 (hP52 1 18 rfl rfl)) (s_l1Lit_c (n_:=x_8.lit) s190 hx29) ?_
 rintro _ w193 ⟨rfl,hst⟩
 have hst:=k192 hst c0
 exact L_nil ⟨rfl,_,_,rfl,Le.refl _,fun _ _=>rfl,hst⟩
 refine opsS_cons (fun f w_ _ _ _ _ p hst=>L_not_ rfl (p 2 19 rfl rfl) (nO rfl rfl hst)) (opsS_cons (fun f w_ _ _ _ _ p hst=>mF (p 3 20 rfl rfl) rfl (nO rfl rfl hst)) (oP (fun _ _ p=>gN (p 4 21 rfl rfl) hc56 rfl) (fun _=>rfl) (oP (fun _ _ p=>gN (p 4 21 rfl rfl) hc56 rfl) (fun _=>rfl) (oP (fun _ _ p=>gN (p 4 21 rfl rfl) hc56 rfl) (fun _=>rfl) (opsS_cons (fun f w_ _ _ _ _ p hst=>pkT (v:=Bo ((!x29) || (decide (x_8.coef < 1)))) (p 4 21 rfl rfl) hc56 rfl (or_t hc56) (nO rfl rfl hst)) (opsS_cons (fun f w_ _ _ _ _ p hst=>mF (p 8 25 rfl rfl) rfl (nO rfl rfl hst)) (opsS_cons (fun f w_ _ _ s _ p hst=>L_fa (o':=0) (g_yes rfl (Eq.trans (p 9 26 rfl rfl) (congrArg Value.bool hc57)) rfl) fa_112_0 ((s 4 rfl).trans rfl) rfl (nO rfl rfl hst)) (opsS_cons (fun f w_ _ _ _ _ p hst=>L_ld (v:=I x_8.coef) (g_yes rfl (Eq.trans (p 9 26 rfl rfl) (congrArg Value.bool hc57)) rfl) Try.isAgg3 (p 10 27 rfl rfl) (At.cell0 (Blk.at (Star.blkAt 0 hst rfl)) (j:=0) rfl) (nO rfl rfl hst)) (opsS_cons (fun f w_ _ _ _ _ p hst=>L_gtr (g_yes rfl (Eq.trans (p 9 26 rfl rfl) (congrArg Value.bool hc57)) rfl) (p 11 28 rfl rfl) rfl (nO rfl rfl hst)) (opsS_cons (fun f w_ _ _ _ _ p hst=>pkT (v:=Bo (((!x29) || (decide (x_8.coef < 1))) || (decide (x_8.coef > 1000)))) (p 9 26 rfl rfl) hc57 rfl (or_f hc57 (p 12 29 rfl rfl)) (nO rfl rfl hst)) (opsS_cons (fun f w_ _ _ _ _ p hst=>mF (p 13 30 rfl rfl) rfl (nO rfl rfl hst)) (opsS_cons (fun f w_ _ _ s _ p hst=>L_mv (v:=I i_5) (g_yes rfl (Eq.trans (p 14 31 rfl rfl) (congrArg Value.bool hc126)) rfl) ((s 3 rfl).trans sf3) (nO rfl rfl hst)) (opsS_cons (fun f w_ _ _ _ _ p hst=>L_gtr (g_yes rfl (Eq.trans (p 14 31 rfl rfl) (congrArg Value.bool hc126)) rfl) (p 15 32 rfl rfl) rfl (nO rfl rfl hst)) (opsS_cons (fun f w_ _ _ _ _ p hst=>L_mv (v:=Bo (decide ((i_5 : Int) > 0))) (g_yes rfl (Eq.trans (p 14 31 rfl rfl) (congrArg Value.bool hc126)) rfl) (p 16 33 rfl rfl) (nO rfl rfl hst)) (oP (fun _ _ p=>gN (p 17 34 rfl rfl) hc139 rfl) (fun _=>rfl) (oP (fun _ _ p=>gN (p 17 34 rfl rfl) hc139 rfl) (fun _=>rfl) (oP (fun _ _ p=>gN (p 17 34 rfl rfl) hc139 rfl) (fun _=>rfl) (oP (fun _ _ p=>gN (p 17 34 rfl rfl) hc139 rfl) (fun _=>rfl) (oP (fun _ _ p=>gN (p 17 34 rfl rfl) hc139 rfl) (fun _=>rfl) (oP (fun _ _ p=>gN (p 17 34 rfl rfl) hc139 rfl) (fun _=>rfl) (oP (fun _ _ p=>gN (p 17 34 rfl rfl) hc139 rfl) (fun _=>rfl) (oP (fun _ _ p=>gN (p 17 34 rfl rfl) hc139 rfl) (fun _=>rfl) (oP (fun _ _ p=>gN (p 17 34 rfl rfl) hc139 rfl) (fun _=>rfl) (oP (fun _ _ p=>gN (p 17 34 rfl rfl) hc139 rfl) (fun _=>rfl) (opsS_nil)))))))))))))))))))))))))
 refine ps (g_no rfl (Eq.trans (hT52 17 34 rfl rfl) (congrArg Value.bool hc139)) rfl rfl) (ps (g_no rfl (Eq.trans (hT52 17 34 rfl rfl) (congrArg Value.bool hc139)) rfl rfl) (L_pick (v:=Bo b50) (g_yes rfl (Eq.trans (hT52 14 31 rfl rfl) (congrArg Value.bool hc126)) rfl) (Eq.trans (hT52 17 34 rfl rfl) (congrArg Value.bool hc139)) (congrArg Value.bool (so hb50)) (L_pick (v:=Bo b51) rfl (Eq.trans (hT52 14 31 rfl rfl) (congrArg Value.bool hc126)) (congrArg Value.bool (so hb51)) (nn ?_))))
 have hst:=hst.get 1 rfl
 exact rj hR55 ⟨H52,hE52,((hS52 1 rfl).trans sf1),((hS52 3 rfl).trans sf3),rfl,(Star.keepN 1 hst)⟩
 rcases Bool.eq_false_or_eq_true ((!x29) || (decide (x_8.coef < 1))) with hc194 | hc194
 rcases Bool.eq_false_or_eq_true (((!x29) || (decide (x_8.coef < 1))) || (decide (x_8.coef > 1000))) with hc195 | hc195
 rw [ite_t hc195] at hb51
 refine W_drawS 28 [isV (Pq g21 1),isV (I x_8.lit),isV (Bo x29),isV (Bo (!x29)),isV (Bo (!x29)),isV (Pt g21),isV (I x_8.coef),isV (Bo (decide (x_8.coef < 1))),isV (Bo ((!x29) || (decide (x_8.coef < 1)))),isV (Bo ((!x29) || (decide (x_8.coef < 1)))),isV (undef),isV (undef),isV (undef),isV (Bo (((!x29) || (decide (x_8.coef < 1))) || (decide (x_8.coef > 1000)))),isV (Bo (((!x29) || (decide (x_8.coef < 1))) || (decide (x_8.coef > 1000)))),isV (undef),isV (undef),isV (undef),isV (undef),isV (undef),isV (undef),isV (undef),isV (undef),isV (undef),isV (undef),isV (undef),isV (undef),isV (undef)] [box g21 112 #[I x_8.coef,I x_8.lit],box g3 43 #[v0_0,I c.bound]] [] ([]) [([],[]),([],[]),([],[]),([],[]),([],[]),([],[]),([],[]),([],[]),([],[]),([],[]),([],[]),([],[]),([],[]),([],[]),([],[]),([],[]),([],[]),([],[]),([],[]),([],[]),([],[]),([],[]),([],[]),([],[]),([],[]),([],[]),([],[]),([],[])] (S:=[]) Try_mix (by kernel_rfl) rfl (by kernel_rfl) (amF_cons (mono_V _) (amF_cons (mono_V _) (amF_cons (mono_V _) (amF_cons (mono_V _) (amF_cons (mono_V _) (amF_cons (mono_V _) (amF_cons (mono_V _) (amF_cons (mono_V _) (amF_cons (mono_V _) (amF_cons (mono_V _) (amF_cons (mono_V _) (amF_cons (mono_V _) (amF_cons (mono_V _) (amF_cons (mono_V _) (amF_cons (mono_V _) (amF_cons (mono_V _) (amF_cons (mono_V _) (amF_cons (mono_V _) (amF_cons (mono_V _) (amF_cons (mono_V _) (amF_cons (mono_V _) (amF_cons (mono_V _) (amF_cons (mono_V _) (amF_cons (mono_V _) (amF_cons (mono_V _) (amF_cons (mono_V _) (amF_cons (mono_V _) (amF_cons (mono_V _) amF_nil)))))))))))))))))))))))))))) hst ?_ (fun f w_ H52 hS52 hE52 hT52 hst=>?_)
 refine opsS_cons (fun f w_ _ _ s _ _ hst=>fA 1 fa_112_1 ((s 4 rfl).trans rfl) rfl (nO rfl rfl hst)) (opsS_cons (fun f w_ _ _ _ _ p hst=>ldB 0 hst Try.isAgg3 (p 0 17 rfl rfl) rfl rfl (nO rfl rfl hst)) (opsS_cons ?_ ?_))
 intro f w_ H52 X52 hS52 hE52 hP52 hst
 obtain ⟨H202b,l203,s204,z205,k206⟩:=hst.borrow
 refine L_call rfl Try.call95 (ops1 (hP52 1 18 rfl rfl)) (s_l1Lit_c (n_:=x_8.lit) s204 hx29) ?_
 rintro _ w207 ⟨rfl,hst⟩
 have hst:=k206 hst c0
 exact L_nil ⟨rfl,_,_,rfl,Le.refl _,fun _ _=>rfl,hst⟩
 refine opsS_cons (fun f w_ _ _ _ _ p hst=>L_not_ rfl (p 2 19 rfl rfl) (nO rfl rfl hst)) (opsS_cons (fun f w_ _ _ _ _ p hst=>mF (p 3 20 rfl rfl) rfl (nO rfl rfl hst)) (opsS_cons (fun f w_ _ _ s _ p hst=>L_fa (o':=0) (g_yes rfl (Eq.trans (p 4 21 rfl rfl) (congrArg Value.bool hc56)) rfl) fa_112_0 ((s 4 rfl).trans rfl) rfl (nO rfl rfl hst)) (opsS_cons (fun f w_ _ _ _ _ p hst=>L_ld (v:=I x_8.coef) (g_yes rfl (Eq.trans (p 4 21 rfl rfl) (congrArg Value.bool hc56)) rfl) Try.isAgg3 (p 5 22 rfl rfl) (At.cell0 (Blk.at (Star.blkAt 0 hst rfl)) (j:=0) rfl) (nO rfl rfl hst)) (opsS_cons (fun f w_ _ _ _ _ p hst=>L_lss (g_yes rfl (Eq.trans (p 4 21 rfl rfl) (congrArg Value.bool hc56)) rfl) (p 6 23 rfl rfl) rfl (nO rfl rfl hst)) (opsS_cons (fun f w_ _ _ _ _ p hst=>pkT (v:=Bo ((!x29) || (decide (x_8.coef < 1)))) (p 4 21 rfl rfl) hc56 rfl (or_f hc56 (p 7 24 rfl rfl)) (nO rfl rfl hst)) (opsS_cons (fun f w_ _ _ _ _ p hst=>mF (p 8 25 rfl rfl) rfl (nO rfl rfl hst)) (oP (fun _ _ p=>gN (p 9 26 rfl rfl) hc194 rfl) (fun _=>rfl) (oP (fun _ _ p=>gN (p 9 26 rfl rfl) hc194 rfl) (fun _=>rfl) (oP (fun _ _ p=>gN (p 9 26 rfl rfl) hc194 rfl) (fun _=>rfl) (opsS_cons (fun f w_ _ _ _ _ p hst=>pkT (v:=Bo (((!x29) || (decide (x_8.coef < 1))) || (decide (x_8.coef > 1000)))) (p 9 26 rfl rfl) hc194 rfl (or_t hc194) (nO rfl rfl hst)) (opsS_cons (fun f w_ _ _ _ _ p hst=>mF (p 13 30 rfl rfl) rfl (nO rfl rfl hst)) (oP (fun _ _ p=>gN (p 14 31 rfl rfl) hc195 rfl) (fun _=>rfl) (oP (fun _ _ p=>gN (p 14 31 rfl rfl) hc195 rfl) (fun _=>rfl) (oP (fun _ _ p=>gN (p 14 31 rfl rfl) hc195 rfl) (fun _=>rfl) (oP (fun _ _ p=>g_undef rfl (p 17 34 rfl rfl) rfl) (fun _=>rfl) (oP (fun _ _ p=>g_undef rfl (p 17 34 rfl rfl) rfl) (fun _=>rfl) (oP (fun _ _ p=>g_undef rfl (p 17 34 rfl rfl) rfl) (fun _=>rfl) (oP (fun _ _ p=>g_undef rfl (p 17 34 rfl rfl) rfl) (fun _=>rfl) (oP (fun _ _ p=>g_undef rfl (p 17 34 rfl rfl) rfl) (fun _=>rfl) (oP (fun _ _ p=>g_undef rfl (p 17 34 rfl rfl) rfl) (fun _=>rfl) (oP (fun _ _ p=>g_undef rfl (p 17 34 rfl rfl) rfl) (fun _=>rfl) (oP (fun _ _ p=>g_undef rfl (p 17 34 rfl rfl) rfl) (fun _=>rfl) (oP (fun _ _ p=>g_undef rfl (p 17 34 rfl rfl) rfl) (fun _=>rfl) (oP (fun _ _ p=>g_undef rfl (p 17 34 rfl rfl) rfl) (fun _=>rfl) (opsS_nil)))))))))))))))))))))))))
 refine ps (g_undef rfl (hT52 17 34 rfl rfl) rfl) (ps (g_undef rfl (hT52 17 34 rfl rfl) rfl) (ps (g_no rfl (Eq.trans (hT52 14 31 rfl rfl) (congrArg Value.bool hc195)) rfl rfl) (L_pick (v:=Bo b51) rfl (Eq.trans (hT52 14 31 rfl rfl) (congrArg Value.bool hc195)) (congrArg Value.bool (so hb51)) (nn ?_))))
 have hst:=hst.get 1 rfl
 exact rj hR55 ⟨H52,hE52,((hS52 1 rfl).trans sf1),((hS52 3 rfl).trans sf3),rfl,(Star.keepN 1 hst)⟩
 rw [ite_f hc195] at hb51
 obtain ⟨b50,hb50,hb51⟩:=bind_some hb51
 rcases Bool.eq_false_or_eq_true (decide ((i_5 : Int) > 0)) with hc208 | hc208
 rw [ite_t hc208] at hb50
 obtain ⟨x31,hx31,hb50⟩:=bind_some hb50
 obtain ⟨x41,hx41,hb50⟩:=bind_some hb50
 obtain ⟨x48,hx48,hb50⟩:=bind_some hb50
 refine W_drawS 28 [isV (Pq g21 1),isV (I x_8.lit),isV (Bo x29),isV (Bo (!x29)),isV (Bo (!x29)),isV (Pt g21),isV (I x_8.coef),isV (Bo (decide (x_8.coef < 1))),isV (Bo ((!x29) || (decide (x_8.coef < 1)))),isV (Bo ((!x29) || (decide (x_8.coef < 1)))),isV (undef),isV (undef),isV (undef),isV (Bo (((!x29) || (decide (x_8.coef < 1))) || (decide (x_8.coef > 1000)))),isV (Bo (((!x29) || (decide (x_8.coef < 1))) || (decide (x_8.coef > 1000)))),isV (I i_5),isV (Bo (decide ((i_5 : Int) > 0))),isV (Bo (decide ((i_5 : Int) > 0))),isV (Pt g3),isV (v0_0),isV (I i_5),isV (I (i64 ((i_5 : Int) - 1))),isEl rTerm x31 0,isEl rTerm x31 1,isV (I x31.lit),isV (I x41),isV (Pq g21 1),isV (I x_8.lit)] [box g21 112 #[I x_8.coef,I x_8.lit],box g3 43 #[v0_0,I c.bound]] [] ([]) [([],[]),([],[]),([],[]),([],[]),([],[]),([],[]),([],[]),([],[]),([],[]),([],[]),([],[]),([],[]),([],[]),([],[]),([],[]),([],[]),([],[]),([],[]),([],[]),([],[]),([],[]),([],[]),([],[]),([],[]),([],[]),([],[]),([],[]),([],[])] (S:=[]) Try_mix (by kernel_rfl) rfl (by kernel_rfl) (amF_cons (mono_V _) (amF_cons (mono_V _) (amF_cons (mono_V _) (amF_cons (mono_V _) (amF_cons (mono_V _) (amF_cons (mono_V _) (amF_cons (mono_V _) (amF_cons (mono_V _) (amF_cons (mono_V _) (amF_cons (mono_V _) (amF_cons (mono_V _) (amF_cons (mono_V _) (amF_cons (mono_V _) (amF_cons (mono_V _) (amF_cons (mono_V _) (amF_cons (mono_V _) (amF_cons (mono_V _) (amF_cons (mono_V _) (amF_cons (mono_V _) (amF_cons (mono_V _) (amF_cons (mono_V _) (amF_cons (mono_V _) (amF_cons (mono_el _ _ _) (amF_cons (mono_el _ _ _) (amF_cons (mono_V _) (amF_cons (mono_V _) (amF_cons (mono_V _) (amF_cons (mono_V _) amF_nil)))))))))))))))))))))))))))) hst ?_ (fun f w_ H52 hS52 hE52 hT52 hst=>?_)
 refine opsS_cons (fun f w_ _ _ s _ _ hst=>fA 1 fa_112_1 ((s 4 rfl).trans rfl) rfl (nO rfl rfl hst)) (opsS_cons (fun f w_ _ _ _ _ p hst=>ldB 0 hst Try.isAgg3 (p 0 17 rfl rfl) rfl rfl (nO rfl rfl hst)) (opsS_cons ?_ ?_))
 intro f w_ H52 X52 hS52 hE52 hP52 hst
 obtain ⟨H225b,l226,s227,z228,k229⟩:=hst.borrow
 refine L_call rfl Try.call95 (ops1 (hP52 1 18 rfl rfl)) (s_l1Lit_c (n_:=x_8.lit) s227 hx29) ?_
 rintro _ w230 ⟨rfl,hst⟩
 have hst:=k229 hst c0
 exact L_nil ⟨rfl,_,_,rfl,Le.refl _,fun _ _=>rfl,hst⟩
 refine opsS_cons (fun f w_ _ _ _ _ p hst=>L_not_ rfl (p 2 19 rfl rfl) (nO rfl rfl hst)) (opsS_cons (fun f w_ _ _ _ _ p hst=>mF (p 3 20 rfl rfl) rfl (nO rfl rfl hst)) (opsS_cons (fun f w_ _ _ s _ p hst=>L_fa (o':=0) (g_yes rfl (Eq.trans (p 4 21 rfl rfl) (congrArg Value.bool hc56)) rfl) fa_112_0 ((s 4 rfl).trans rfl) rfl (nO rfl rfl hst)) (opsS_cons (fun f w_ _ _ _ _ p hst=>L_ld (v:=I x_8.coef) (g_yes rfl (Eq.trans (p 4 21 rfl rfl) (congrArg Value.bool hc56)) rfl) Try.isAgg3 (p 5 22 rfl rfl) (At.cell0 (Blk.at (Star.blkAt 0 hst rfl)) (j:=0) rfl) (nO rfl rfl hst)) (opsS_cons (fun f w_ _ _ _ _ p hst=>L_lss (g_yes rfl (Eq.trans (p 4 21 rfl rfl) (congrArg Value.bool hc56)) rfl) (p 6 23 rfl rfl) rfl (nO rfl rfl hst)) (opsS_cons (fun f w_ _ _ _ _ p hst=>pkT (v:=Bo ((!x29) || (decide (x_8.coef < 1)))) (p 4 21 rfl rfl) hc56 rfl (or_f hc56 (p 7 24 rfl rfl)) (nO rfl rfl hst)) (opsS_cons (fun f w_ _ _ _ _ p hst=>mF (p 8 25 rfl rfl) rfl (nO rfl rfl hst)) (oP (fun _ _ p=>gN (p 9 26 rfl rfl) hc194 rfl) (fun _=>rfl) (oP (fun _ _ p=>gN (p 9 26 rfl rfl) hc194 rfl) (fun _=>rfl) (oP (fun _ _ p=>gN (p 9 26 rfl rfl) hc194 rfl) (fun _=>rfl) (opsS_cons (fun f w_ _ _ _ _ p hst=>pkT (v:=Bo (((!x29) || (decide (x_8.coef < 1))) || (decide (x_8.coef > 1000)))) (p 9 26 rfl rfl) hc194 rfl (or_t hc194) (nO rfl rfl hst)) (opsS_cons (fun f w_ _ _ _ _ p hst=>mF (p 13 30 rfl rfl) rfl (nO rfl rfl hst)) (opsS_cons (fun f w_ _ _ s _ p hst=>L_mv (v:=I i_5) (g_yes rfl (Eq.trans (p 14 31 rfl rfl) (congrArg Value.bool hc195)) rfl) ((s 3 rfl).trans sf3) (nO rfl rfl hst)) (opsS_cons (fun f w_ _ _ _ _ p hst=>L_gtr (g_yes rfl (Eq.trans (p 14 31 rfl rfl) (congrArg Value.bool hc195)) rfl) (p 15 32 rfl rfl) rfl (nO rfl rfl hst)) (opsS_cons (fun f w_ _ _ _ _ p hst=>L_mv (v:=Bo (decide ((i_5 : Int) > 0))) (g_yes rfl (Eq.trans (p 14 31 rfl rfl) (congrArg Value.bool hc195)) rfl) (p 16 33 rfl rfl) (nO rfl rfl hst)) (opsS_cons (fun f w_ _ _ s _ p hst=>L_fa (o':=0) (g_yes rfl (Eq.trans (p 17 34 rfl rfl) (congrArg Value.bool hc208)) rfl) fa_43_0 ((s 1 rfl).trans sf1) rfl (nO rfl rfl hst)) (opsS_cons (fun f w_ _ _ _ _ p hst=>L_ld (v:=v0_0) (g_yes rfl (Eq.trans (p 17 34 rfl rfl) (congrArg Value.bool hc208)) rfl) Try.isAgg41 (p 18 35 rfl rfl) (At.cell0 (Blk.at (Star.blkAt 1 hst rfl)) (j:=0) rfl) (nO rfl rfl hst)) (opsS_cons (fun f w_ _ _ s _ p hst=>L_mv (v:=I i_5) (g_yes rfl (Eq.trans (p 17 34 rfl rfl) (congrArg Value.bool hc208)) rfl) ((s 3 rfl).trans sf3) (nO rfl rfl hst)) (opsS_cons (fun f w_ _ _ _ _ p hst=>L_sub (g_yes rfl (Eq.trans (p 17 34 rfl rfl) (congrArg Value.bool hc208)) rfl) (p 20 37 rfl rfl) rfl (nO rfl rfl hst)) (opsS_cons ?_ ?_)))))))))))))))))))
 intro f w_ H52 X52 hS52 hE52 hP52 hst
 refine L_ix (r:=rTerm) (g_yes rfl (Eq.trans (hP52 17 34 rfl rfl) (congrArg Value.bool hc208)) rfl) Try.underlying41 Try.sizeOf112 (hP52 19 36 rfl rfl) (RP.mono _ h0_0 (Le.trans l7 hE52)) (hP52 21 38 rfl rfl) hx31 (fun g231 o232 cs_g231 hrk_hat233 hat233=>?_)
 obtain rfl:=rTerm_iff.1 hrk_hat233
 exact L_nil ⟨rfl,_,_,rfl,Le.refl _,fun _ _=>⟨_,_,_,rfl,hrk_hat233,hat233⟩,hst⟩
 refine opsS_cons ?_ ?_
 intro f w_ H52 X52 hS52 hE52 hP52 hst
 obtain ⟨g235,o235,cs235,hv235,hrk_hat235,hat235⟩:=(hP52 22 39 rfl rfl)
 obtain rfl:=rTerm_iff.1 hrk_hat235
 refine L_fa (o':=o235 + 1) (g_yes rfl (Eq.trans (hP52 17 34 rfl rfl) (congrArg Value.bool hc208)) rfl) fa_112_1 hv235 rfl (L_nil ⟨rfl,_,_,rfl,Le.refl _,fun _ _=>⟨_,_,_,rfl,hrk_hat235,hat235⟩,hst⟩)
 refine opsS_cons ?_ ?_
 intro f w_ H52 X52 hS52 hE52 hP52 hst
 obtain ⟨g237,o237,cs237,hv237,hrk_hat237,hat237⟩:=(hP52 23 40 rfl rfl)
 obtain rfl:=rTerm_iff.1 hrk_hat237
 refine L_ld (v:=I x31.lit) (g_yes rfl (Eq.trans (hP52 17 34 rfl rfl) (congrArg Value.bool hc208)) rfl) Try.isAgg3 hv237 (At.cell (AtH.at hat237 hst.sub) (j:=1) rfl) (L_nil ⟨rfl,_,_,rfl,Le.refl _,fun _ _=>rfl,hst⟩)
 refine opsS_cons ?_ ?_
 intro f w_ H52 X52 hS52 hE52 hP52 hst
 obtain ⟨H239b,l240,s241,z242,k243⟩:=hst.borrow
 refine L_call (g_yes rfl (Eq.trans (hP52 17 34 rfl rfl) (congrArg Value.bool hc208)) rfl) Try.call96 (ops1 (hP52 24 41 rfl rfl)) (s_l1Abs_c (n_:=x31.lit) s241 hx41) ?_
 rintro _ w244 ⟨rfl,hst⟩
 have hst:=k243 hst c0
 exact L_nil ⟨rfl,_,_,rfl,Le.refl _,fun _ _=>rfl,hst⟩
 refine opsS_cons (fun f w_ _ _ s _ p hst=>L_fa (o':=1) (g_yes rfl (Eq.trans (p 17 34 rfl rfl) (congrArg Value.bool hc208)) rfl) fa_112_1 ((s 4 rfl).trans rfl) rfl (nO rfl rfl hst)) (opsS_cons (fun f w_ _ _ _ _ p hst=>L_ld (v:=I x_8.lit) (g_yes rfl (Eq.trans (p 17 34 rfl rfl) (congrArg Value.bool hc208)) rfl) Try.isAgg3 (p 26 43 rfl rfl) (At.cell0 (Blk.at (Star.blkAt 0 hst rfl)) (j:=1) rfl) (nO rfl rfl hst)) (opsS_nil))
 obtain ⟨H245b,l246,s247,z248,k249⟩:=hst.borrow
 refine L_call (g_yes rfl (Eq.trans (hT52 17 34 rfl rfl) (congrArg Value.bool hc208)) rfl) Try.call96 (ops1 (hT52 27 44 rfl rfl)) (s_l1Abs_c (n_:=x_8.lit) s247 hx48) ?_
 rintro _ w250 ⟨rfl,hst⟩
 have hst:=k249 hst c0
 refine L_geq (g_yes rfl (Eq.trans (hT52 17 34 rfl rfl) (congrArg Value.bool hc208)) rfl) (hT52 25 42 rfl rfl) rfl (L_pick (v:=Bo b50) (g_yes rfl (Eq.trans (hT52 14 31 rfl rfl) (congrArg Value.bool hc195)) rfl) (Eq.trans (hT52 17 34 rfl rfl) (congrArg Value.bool hc208)) (congrArg Value.bool (so hb50)) (L_pick (v:=Bo b51) rfl (Eq.trans (hT52 14 31 rfl rfl) (congrArg Value.bool hc195)) (congrArg Value.bool (so hb51)) (nn ?_)))
 have hst:=hst.get 1 rfl
 exact rj hR55 ⟨H52,hE52,((hS52 1 rfl).trans sf1),((hS52 3 rfl).trans sf3),rfl,(Star.keepN 1 hst)⟩
 rw [ite_f hc208] at hb50
 refine W_drawS 28 [isV (Pq g21 1),isV (I x_8.lit),isV (Bo x29),isV (Bo (!x29)),isV (Bo (!x29)),isV (Pt g21),isV (I x_8.coef),isV (Bo (decide (x_8.coef < 1))),isV (Bo ((!x29) || (decide (x_8.coef < 1)))),isV (Bo ((!x29) || (decide (x_8.coef < 1)))),isV (undef),isV (undef),isV (undef),isV (Bo (((!x29) || (decide (x_8.coef < 1))) || (decide (x_8.coef > 1000)))),isV (Bo (((!x29) || (decide (x_8.coef < 1))) || (decide (x_8.coef > 1000)))),isV (I i_5),isV (Bo (decide ((i_5 : Int) > 0))),isV (Bo (decide ((i_5 : Int) > 0))),isV (undef),isV (undef),isV (undef),isV (undef),isV (undef),isV (undef),isV (undef),isV (undef),isV (undef),isV (undef)] [box g21 112 #[I x_8.coef,I x_8.lit],box g3 43 #[v0_0,I c.bound]] [] ([]) [([],[]),([],[]),([],[]),([],[]),([],[]),([],[]),([],[]),([],[]),([],[]),([],[]),([],[]),([],[]),([],[]),([],[]),([],[]),([],[]),([],[]),([],[]),([],[]),([],[]),([],[]),([],[]),([],[]),([],[]),([],[]),([],[]),([],[]),([],[])] (S:=[]) Try_mix (by kernel_rfl) rfl (by kernel_rfl) (amF_cons (mono_V _) (amF_cons (mono_V _) (amF_cons (mono_V _) (amF_cons (mono_V _) (amF_cons (mono_V _) (amF_cons (mono_V _) (amF_cons (mono_V _) (amF_cons (mono_V _) (amF_cons (mono_V _) (amF_cons (mono_V _) (amF_cons (mono_V _) (amF_cons (mono_V _) (amF_cons (mono_V _) (amF_cons (mono_V _) (amF_cons (mono_V _) (amF_cons (mono_V _) (amF_cons (mono_V _) (amF_cons (mono_V _) (amF_cons (mono_V _) (amF_cons (mono_V _) (amF_cons (mono_V _) (amF_cons (mono_V _) (amF_cons (mono_V _) (amF_cons (mono_V _) (amF_cons (mono_V _) (amF_cons (mono_V _) (amF_cons (mono_V _) (amF_cons (mono_V _) amF_nil)))))))))))))))))))))))))))) hst ?_ (fun f w_ H52 hS52 hE52 hT52 hst=>?_)
 refine opsS_cons (fun f w_ _ _ s _ _ hst=>fA 1 fa_112_1 ((s 4 rfl).trans rfl) rfl (nO rfl rfl hst)) (opsS_cons (fun f w_ _ _ _ _ p hst=>ldB 0 hst Try.isAgg3 (p 0 17 rfl rfl) rfl rfl (nO rfl rfl hst)) (opsS_cons ?_ ?_))
 intro f w_ H52 X52 hS52 hE52 hP52 hst
 obtain ⟨H257b,l258,s259,z260,k261⟩:=hst.borrow
 refine L_call rfl Try.call95 (ops1 (hP52 1 18 rfl rfl)) (s_l1Lit_c (n_:=x_8.lit) s259 hx29) ?_
 rintro _ w262 ⟨rfl,hst⟩
 have hst:=k261 hst c0
 exact L_nil ⟨rfl,_,_,rfl,Le.refl _,fun _ _=>rfl,hst⟩
 refine opsS_cons (fun f w_ _ _ _ _ p hst=>L_not_ rfl (p 2 19 rfl rfl) (nO rfl rfl hst)) (opsS_cons (fun f w_ _ _ _ _ p hst=>mF (p 3 20 rfl rfl) rfl (nO rfl rfl hst)) (opsS_cons (fun f w_ _ _ s _ p hst=>L_fa (o':=0) (g_yes rfl (Eq.trans (p 4 21 rfl rfl) (congrArg Value.bool hc56)) rfl) fa_112_0 ((s 4 rfl).trans rfl) rfl (nO rfl rfl hst)) (opsS_cons (fun f w_ _ _ _ _ p hst=>L_ld (v:=I x_8.coef) (g_yes rfl (Eq.trans (p 4 21 rfl rfl) (congrArg Value.bool hc56)) rfl) Try.isAgg3 (p 5 22 rfl rfl) (At.cell0 (Blk.at (Star.blkAt 0 hst rfl)) (j:=0) rfl) (nO rfl rfl hst)) (opsS_cons (fun f w_ _ _ _ _ p hst=>L_lss (g_yes rfl (Eq.trans (p 4 21 rfl rfl) (congrArg Value.bool hc56)) rfl) (p 6 23 rfl rfl) rfl (nO rfl rfl hst)) (opsS_cons (fun f w_ _ _ _ _ p hst=>pkT (v:=Bo ((!x29) || (decide (x_8.coef < 1)))) (p 4 21 rfl rfl) hc56 rfl (or_f hc56 (p 7 24 rfl rfl)) (nO rfl rfl hst)) (opsS_cons (fun f w_ _ _ _ _ p hst=>mF (p 8 25 rfl rfl) rfl (nO rfl rfl hst)) (oP (fun _ _ p=>gN (p 9 26 rfl rfl) hc194 rfl) (fun _=>rfl) (oP (fun _ _ p=>gN (p 9 26 rfl rfl) hc194 rfl) (fun _=>rfl) (oP (fun _ _ p=>gN (p 9 26 rfl rfl) hc194 rfl) (fun _=>rfl) (opsS_cons (fun f w_ _ _ _ _ p hst=>pkT (v:=Bo (((!x29) || (decide (x_8.coef < 1))) || (decide (x_8.coef > 1000)))) (p 9 26 rfl rfl) hc194 rfl (or_t hc194) (nO rfl rfl hst)) (opsS_cons (fun f w_ _ _ _ _ p hst=>mF (p 13 30 rfl rfl) rfl (nO rfl rfl hst)) (opsS_cons (fun f w_ _ _ s _ p hst=>L_mv (v:=I i_5) (g_yes rfl (Eq.trans (p 14 31 rfl rfl) (congrArg Value.bool hc195)) rfl) ((s 3 rfl).trans sf3) (nO rfl rfl hst)) (opsS_cons (fun f w_ _ _ _ _ p hst=>L_gtr (g_yes rfl (Eq.trans (p 14 31 rfl rfl) (congrArg Value.bool hc195)) rfl) (p 15 32 rfl rfl) rfl (nO rfl rfl hst)) (opsS_cons (fun f w_ _ _ _ _ p hst=>L_mv (v:=Bo (decide ((i_5 : Int) > 0))) (g_yes rfl (Eq.trans (p 14 31 rfl rfl) (congrArg Value.bool hc195)) rfl) (p 16 33 rfl rfl) (nO rfl rfl hst)) (oP (fun _ _ p=>gN (p 17 34 rfl rfl) hc208 rfl) (fun _=>rfl) (oP (fun _ _ p=>gN (p 17 34 rfl rfl) hc208 rfl) (fun _=>rfl) (oP (fun _ _ p=>gN (p 17 34 rfl rfl) hc208 rfl) (fun _=>rfl) (oP (fun _ _ p=>gN (p 17 34 rfl rfl) hc208 rfl) (fun _=>rfl) (oP (fun _ _ p=>gN (p 17 34 rfl rfl) hc208 rfl) (fun _=>rfl) (oP (fun _ _ p=>gN (p 17 34 rfl rfl) hc208 rfl) (fun _=>rfl) (oP (fun _ _ p=>gN (p 17 34 rfl rfl) hc208 rfl) (fun _=>rfl) (oP (fun _ _ p=>gN (p 17 34 rfl rfl) hc208 rfl) (fun _=>rfl) (oP (fun _ _ p=>gN (p 17 34 rfl rfl) hc208 rfl) (fun _=>rfl) (oP (fun _ _ p=>gN (p 17 34 rfl rfl) hc208 rfl) (fun _=>rfl) (opsS_nil)))))))))))))))))))))))))
 refine ps (g_no rfl (Eq.trans (hT52 17 34 rfl rfl) (congrArg Value.bool hc208)) rfl rfl) (ps (g_no rfl (Eq.trans (hT52 17 34 rfl rfl) (congrArg Value.bool hc208)) rfl rfl) (L_pick (v:=Bo b50) (g_yes rfl (Eq.trans (hT52 14 31 rfl rfl) (congrArg Value.bool hc195)) rfl) (Eq.trans (hT52 17 34 rfl rfl) (congrArg Value.bool hc208)) (congrArg Value.bool (so hb50)) (L_pick (v:=Bo b51) rfl (Eq.trans (hT52 14 31 rfl rfl) (congrArg Value.bool hc195)) (congrArg Value.bool (so hb51)) (nn ?_))))
 have hst:=hst.get 1 rfl
 exact rj hR55 ⟨H52,hE52,((hS52 1 rfl).trans sf1),((hS52 3 rfl).trans sf3),rfl,(Star.keepN 1 hst)⟩
 rcases Bool.eq_false_or_eq_true (((!x29) || (decide (x_8.coef < 1))) || (decide (x_8.coef > 1000))) with hc263 | hc263
 rw [ite_t hc263] at hb51
 refine W_drawS 28 [isV (Pq g21 1),isV (I x_8.lit),isV (Bo x29),isV (Bo (!x29)),isV (Bo (!x29)),isV (Pt g21),isV (I x_8.coef),isV (Bo (decide (x_8.coef < 1))),isV (Bo ((!x29) || (decide (x_8.coef < 1)))),isV (Bo ((!x29) || (decide (x_8.coef < 1)))),isV (Pt g21),isV (I x_8.coef),isV (Bo (decide (x_8.coef > 1000))),isV (Bo (((!x29) || (decide (x_8.coef < 1))) || (decide (x_8.coef > 1000)))),isV (Bo (((!x29) || (decide (x_8.coef < 1))) || (decide (x_8.coef > 1000)))),isV (undef),isV (undef),isV (undef),isV (undef),isV (undef),isV (undef),isV (undef),isV (undef),isV (undef),isV (undef),isV (undef),isV (undef),isV (undef)] [box g21 112 #[I x_8.coef,I x_8.lit],box g3 43 #[v0_0,I c.bound]] [] ([]) [([],[]),([],[]),([],[]),([],[]),([],[]),([],[]),([],[]),([],[]),([],[]),([],[]),([],[]),([],[]),([],[]),([],[]),([],[]),([],[]),([],[]),([],[]),([],[]),([],[]),([],[]),([],[]),([],[]),([],[]),([],[]),([],[]),([],[]),([],[])] (S:=[]) Try_mix (by kernel_rfl) rfl (by kernel_rfl) (amF_cons (mono_V _) (amF_cons (mono_V _) (amF_cons (mono_V _) (amF_cons (mono_V _) (amF_cons (mono_V _) (amF_cons (mono_V _) (amF_cons (mono_V _) (amF_cons (mono_V _) (amF_cons (mono_V _) (amF_cons (mono_V _) (amF_cons (mono_V _) (amF_cons (mono_V _) (amF_cons (mono_V _) (amF_cons (mono_V _) (amF_cons (mono_V _) (amF_cons (mono_V _) (amF_cons (mono_V _) (amF_cons (mono_V _) (amF_cons (mono_V _) (amF_cons (mono_V _) (amF_cons (mono_V _) (amF_cons (mono_V _) (amF_cons (mono_V _) (amF_cons (mono_V _) (amF_cons (mono_V _) (amF_cons (mono_V _) (amF_cons (mono_V _) (amF_cons (mono_V _) amF_nil)))))))))))))))))))))))))))) hst ?_ (fun f w_ H52 hS52 hE52 hT52 hst=>?_)
 refine opsS_cons (fun f w_ _ _ s _ _ hst=>fA 1 fa_112_1 ((s 4 rfl).trans rfl) rfl (nO rfl rfl hst)) (opsS_cons (fun f w_ _ _ _ _ p hst=>ldB 0 hst Try.isAgg3 (p 0 17 rfl rfl) rfl rfl (nO rfl rfl hst)) (opsS_cons ?_ ?_))
 intro f w_ H52 X52 hS52 hE52 hP52 hst
 obtain ⟨H270b,l271,s272,z273,k274⟩:=hst.borrow
 refine L_call rfl Try.call95 (ops1 (hP52 1 18 rfl rfl)) (s_l1Lit_c (n_:=x_8.lit) s272 hx29) ?_
 rintro _ w275 ⟨rfl,hst⟩
 have hst:=k274 hst c0
 exact L_nil ⟨rfl,_,_,rfl,Le.refl _,fun _ _=>rfl,hst⟩
 refine opsS_cons (fun f w_ _ _ _ _ p hst=>L_not_ rfl (p 2 19 rfl rfl) (nO rfl rfl hst)) (opsS_cons (fun f w_ _ _ _ _ p hst=>mF (p 3 20 rfl rfl) rfl (nO rfl rfl hst)) (opsS_cons (fun f w_ _ _ s _ p hst=>L_fa (o':=0) (g_yes rfl (Eq.trans (p 4 21 rfl rfl) (congrArg Value.bool hc56)) rfl) fa_112_0 ((s 4 rfl).trans rfl) rfl (nO rfl rfl hst)) (opsS_cons (fun f w_ _ _ _ _ p hst=>L_ld (v:=I x_8.coef) (g_yes rfl (Eq.trans (p 4 21 rfl rfl) (congrArg Value.bool hc56)) rfl) Try.isAgg3 (p 5 22 rfl rfl) (At.cell0 (Blk.at (Star.blkAt 0 hst rfl)) (j:=0) rfl) (nO rfl rfl hst)) (opsS_cons (fun f w_ _ _ _ _ p hst=>L_lss (g_yes rfl (Eq.trans (p 4 21 rfl rfl) (congrArg Value.bool hc56)) rfl) (p 6 23 rfl rfl) rfl (nO rfl rfl hst)) (opsS_cons (fun f w_ _ _ _ _ p hst=>pkT (v:=Bo ((!x29) || (decide (x_8.coef < 1)))) (p 4 21 rfl rfl) hc56 rfl (or_f hc56 (p 7 24 rfl rfl)) (nO rfl rfl hst)) (opsS_cons (fun f w_ _ _ _ _ p hst=>mF (p 8 25 rfl rfl) rfl (nO rfl rfl hst)) (opsS_cons (fun f w_ _ _ s _ p hst=>L_fa (o':=0) (g_yes rfl (Eq.trans (p 9 26 rfl rfl) (congrArg Value.bool hc194)) rfl) fa_112_0 ((s 4 rfl).trans rfl) rfl (nO rfl rfl hst)) (opsS_cons (fun f w_ _ _ _ _ p hst=>L_ld (v:=I x_8.coef) (g_yes rfl (Eq.trans (p 9 26 rfl rfl) (congrArg Value.bool hc194)) rfl) Try.isAgg3 (p 10 27 rfl rfl) (At.cell0 (Blk.at (Star.blkAt 0 hst rfl)) (j:=0) rfl) (nO rfl rfl hst)) (opsS_cons (fun f w_ _ _ _ _ p hst=>L_gtr (g_yes rfl (Eq.trans (p 9 26 rfl rfl) (congrArg Value.bool hc194)) rfl) (p 11 28 rfl rfl) rfl (nO rfl rfl hst)) (opsS_cons (fun f w_ _ _ _ _ p hst=>pkT (v:=Bo (((!x29) || (decide (x_8.coef < 1))) || (decide (x_8.coef > 1000)))) (p 9 26 rfl rfl) hc194 rfl (or_f hc194 (p 12 29 rfl rfl)) (nO rfl rfl hst)) (opsS_cons (fun f w_ _ _ _ _ p hst=>mF (p 13 30 rfl rfl) rfl (nO rfl rfl hst)) (oP (fun _ _ p=>gN (p 14 31 rfl rfl) hc263 rfl) (fun _=>rfl) (oP (fun _ _ p=>gN (p 14 31 rfl rfl) hc263 rfl) (fun _=>rfl) (oP (fun _ _ p=>gN (p 14 31 rfl rfl) hc263 rfl) (fun _=>rfl) (oP (fun _ _ p=>g_undef rfl (p 17 34 rfl rfl) rfl) (fun _=>rfl) (oP (fun _ _ p=>g_undef rfl (p 17 34 rfl rfl) rfl) (fun _=>rfl) (oP (fun _ _ p=>g_undef rfl (p 17 34 rfl rfl) rfl) (fun _=>rfl) (oP (fun _ _ p=>g_undef rfl (p 17 34 rfl rfl) rfl) (fun _=>rfl) (oP (fun _ _ p=>g_undef rfl (p 17 34 rfl rfl) rfl) (fun _=>rfl) (oP (fun _ _ p=>g_undef rfl (p 17 34 rfl rfl) rfl) (fun _=>rfl) (oP (fun _ _ p=>g_undef rfl (p 17 34 rfl rfl) rfl) (fun _=>rfl) (oP (fun _ _ p=>g_undef rfl (p 17 34 rfl rfl) rfl) (fun _=>rfl) (oP (fun _ _ p=>g_undef rfl (p 17 34 rfl rfl) rfl) (fun _=>rfl) (oP (fun _ _ p=>g_undef rfl (p 17 34 rfl rfl) rfl) (fun _=>rfl) (opsS_nil)))))))))))))))))))))))))
 refine ps (g_undef rfl (hT52 17 34 rfl rfl) rfl) (ps (g_undef rfl (hT52 17 34 rfl rfl) rfl) (ps (g_no rfl (Eq.trans (hT52 14 31 rfl rfl) (congrArg Value.bool hc263)) rfl rfl) (L_pick (v:=Bo b51) rfl (Eq.trans (hT52 14 31 rfl rfl) (congrArg Value.bool hc263)) (congrArg Value.bool (so hb51)) (nn ?_))))
 have hst:=hst.get 1 rfl
 exact rj hR55 ⟨H52,hE52,((hS52 1 rfl).trans sf1),((hS52 3 rfl).trans sf3),rfl,(Star.keepN 1 hst)⟩
 rw [ite_f hc263] at hb51
 obtain ⟨b50,hb50,hb51⟩:=bind_some hb51
 rcases Bool.eq_false_or_eq_true (decide ((i_5 : Int) > 0)) with hc276 | hc276
 rw [ite_t hc276] at hb50
 obtain ⟨x31,hx31,hb50⟩:=bind_some hb50
 obtain ⟨x41,hx41,hb50⟩:=bind_some hb50
 obtain ⟨x48,hx48,hb50⟩:=bind_some hb50
 refine W_drawS 28 [isV (Pq g21 1),isV (I x_8.lit),isV (Bo x29),isV (Bo (!x29)),isV (Bo (!x29)),isV (Pt g21),isV (I x_8.coef),isV (Bo (decide (x_8.coef < 1))),isV (Bo ((!x29) || (decide (x_8.coef < 1)))),isV (Bo ((!x29) || (decide (x_8.coef < 1)))),isV (Pt g21),isV (I x_8.coef),isV (Bo (decide (x_8.coef > 1000))),isV (Bo (((!x29) || (decide (x_8.coef < 1))) || (decide (x_8.coef > 1000)))),isV (Bo (((!x29) || (decide (x_8.coef < 1))) || (decide (x_8.coef > 1000)))),isV (I i_5),isV (Bo (decide ((i_5 : Int) > 0))),isV (Bo (decide ((i_5 : Int) > 0))),isV (Pt g3),isV (v0_0),isV (I i_5),isV (I (i64 ((i_5 : Int) - 1))),isEl rTerm x31 0,isEl rTerm x31 1,isV (I x31.lit),isV (I x41),isV (Pq g21 1),isV (I x_8.lit)] [box g21 112 #[I x_8.coef,I x_8.lit],box g3 43 #[v0_0,I c.bound]] [] ([]) [([],[]),([],[]),([],[]),([],[]),([],[]),([],[]),([],[]),([],[]),([],[]),([],[]),([],[]),([],[]),([],[]),([],[]),([],[]),([],[]),([],[]),([],[]),([],[]),([],[]),([],[]),([],[]),([],[]),([],[]),([],[]),([],[]),([],[]),([],[])] (S:=[]) Try_mix (by kernel_rfl) rfl (by kernel_rfl) (amF_cons (mono_V _) (amF_cons (mono_V _) (amF_cons (mono_V _) (amF_cons (mono_V _) (amF_cons (mono_V _) (amF_cons (mono_V _) (amF_cons (mono_V _) (amF_cons (mono_V _) (amF_cons (mono_V _) (amF_cons (mono_V _) (amF_cons (mono_V _) (amF_cons (mono_V _) (amF_cons (mono_V _) (amF_cons (mono_V _) (amF_cons (mono_V _) (amF_cons (mono_V _) (amF_cons (mono_V _) (amF_cons (mono_V _) (amF_cons (mono_V _) (amF_cons (mono_V _) (amF_cons (mono_V _) (amF_cons (mono_V _) (amF_cons (mono_el _ _ _) (amF_cons (mono_el _ _ _) (amF_cons (mono_V _) (amF_cons (mono_V _) (amF_cons (mono_V _) (amF_cons (mono_V _) amF_nil)))))))))))))))))))))))))))) hst ?_ (fun f w_ H52 hS52 hE52 hT52 hst=>?_)
 refine opsS_cons (fun f w_ _ _ s _ _ hst=>fA 1 fa_112_1 ((s 4 rfl).trans rfl) rfl (nO rfl rfl hst)) (opsS_cons (fun f w_ _ _ _ _ p hst=>ldB 0 hst Try.isAgg3 (p 0 17 rfl rfl) rfl rfl (nO rfl rfl hst)) (opsS_cons ?_ ?_))
 intro f w_ H52 X52 hS52 hE52 hP52 hst
 obtain ⟨H293b,l294,s295,z296,k297⟩:=hst.borrow
 refine L_call rfl Try.call95 (ops1 (hP52 1 18 rfl rfl)) (s_l1Lit_c (n_:=x_8.lit) s295 hx29) ?_
 rintro _ w298 ⟨rfl,hst⟩
 have hst:=k297 hst c0
 exact L_nil ⟨rfl,_,_,rfl,Le.refl _,fun _ _=>rfl,hst⟩
 refine opsS_cons (fun f w_ _ _ _ _ p hst=>L_not_ rfl (p 2 19 rfl rfl) (nO rfl rfl hst)) (opsS_cons (fun f w_ _ _ _ _ p hst=>mF (p 3 20 rfl rfl) rfl (nO rfl rfl hst)) (opsS_cons (fun f w_ _ _ s _ p hst=>L_fa (o':=0) (g_yes rfl (Eq.trans (p 4 21 rfl rfl) (congrArg Value.bool hc56)) rfl) fa_112_0 ((s 4 rfl).trans rfl) rfl (nO rfl rfl hst)) (opsS_cons (fun f w_ _ _ _ _ p hst=>L_ld (v:=I x_8.coef) (g_yes rfl (Eq.trans (p 4 21 rfl rfl) (congrArg Value.bool hc56)) rfl) Try.isAgg3 (p 5 22 rfl rfl) (At.cell0 (Blk.at (Star.blkAt 0 hst rfl)) (j:=0) rfl) (nO rfl rfl hst)) (opsS_cons (fun f w_ _ _ _ _ p hst=>L_lss (g_yes rfl (Eq.trans (p 4 21 rfl rfl) (congrArg Value.bool hc56)) rfl) (p 6 23 rfl rfl) rfl (nO rfl rfl hst)) (opsS_cons (fun f w_ _ _ _ _ p hst=>pkT (v:=Bo ((!x29) || (decide (x_8.coef < 1)))) (p 4 21 rfl rfl) hc56 rfl (or_f hc56 (p 7 24 rfl rfl)) (nO rfl rfl hst)) (opsS_cons (fun f w_ _ _ _ _ p hst=>mF (p 8 25 rfl rfl) rfl (nO rfl rfl hst)) (opsS_cons (fun f w_ _ _ s _ p hst=>L_fa (o':=0) (g_yes rfl (Eq.trans (p 9 26 rfl rfl) (congrArg Value.bool hc194)) rfl) fa_112_0 ((s 4 rfl).trans rfl) rfl (nO rfl rfl hst)) (opsS_cons (fun f w_ _ _ _ _ p hst=>L_ld (v:=I x_8.coef) (g_yes rfl (Eq.trans (p 9 26 rfl rfl) (congrArg Value.bool hc194)) rfl) Try.isAgg3 (p 10 27 rfl rfl) (At.cell0 (Blk.at (Star.blkAt 0 hst rfl)) (j:=0) rfl) (nO rfl rfl hst)) (opsS_cons (fun f w_ _ _ _ _ p hst=>L_gtr (g_yes rfl (Eq.trans (p 9 26 rfl rfl) (congrArg Value.bool hc194)) rfl) (p 11 28 rfl rfl) rfl (nO rfl rfl hst)) (opsS_cons (fun f w_ _ _ _ _ p hst=>pkT (v:=Bo (((!x29) || (decide (x_8.coef < 1))) || (decide (x_8.coef > 1000)))) (p 9 26 rfl rfl) hc194 rfl (or_f hc194 (p 12 29 rfl rfl)) (nO rfl rfl hst)) (opsS_cons (fun f w_ _ _ _ _ p hst=>mF (p 13 30 rfl rfl) rfl (nO rfl rfl hst)) (opsS_cons (fun f w_ _ _ s _ p hst=>L_mv (v:=I i_5) (g_yes rfl (Eq.trans (p 14 31 rfl rfl) (congrArg Value.bool hc263)) rfl) ((s 3 rfl).trans sf3) (nO rfl rfl hst)) (opsS_cons (fun f w_ _ _ _ _ p hst=>L_gtr (g_yes rfl (Eq.trans (p 14 31 rfl rfl) (congrArg Value.bool hc263)) rfl) (p 15 32 rfl rfl) rfl (nO rfl rfl hst)) (opsS_cons (fun f w_ _ _ _ _ p hst=>L_mv (v:=Bo (decide ((i_5 : Int) > 0))) (g_yes rfl (Eq.trans (p 14 31 rfl rfl) (congrArg Value.bool hc263)) rfl) (p 16 33 rfl rfl) (nO rfl rfl hst)) (opsS_cons (fun f w_ _ _ s _ p hst=>L_fa (o':=0) (g_yes rfl (Eq.trans (p 17 34 rfl rfl) (congrArg Value.bool hc276)) rfl) fa_43_0 ((s 1 rfl).trans sf1) rfl (nO rfl rfl hst)) (opsS_cons (fun f w_ _ _ _ _ p hst=>L_ld (v:=v0_0) (g_yes rfl (Eq.trans (p 17 34 rfl rfl) (congrArg Value.bool hc276)) rfl) Try.isAgg41 (p 18 35 rfl rfl) (At.cell0 (Blk.at (Star.blkAt 1 hst rfl)) (j:=0) rfl) (nO rfl rfl hst)) (opsS_cons (fun f w_ _ _ s _ p hst=>L_mv (v:=I i_5) (g_yes rfl (Eq.trans (p 17 34 rfl rfl) (congrArg Value.bool hc276)) rfl) ((s 3 rfl).trans sf3) (nO rfl rfl hst)) (opsS_cons (fun f w_ _ _ _ _ p hst=>L_sub (g_yes rfl (Eq.trans (p 17 34 rfl rfl) (congrArg Value.bool hc276)) rfl) (p 20 37 rfl rfl) rfl (nO rfl rfl hst)) (opsS_cons ?_ ?_)))))))))))))))))))
 intro f w_ H52 X52 hS52 hE52 hP52 hst
 refine L_ix (r:=rTerm) (g_yes rfl (Eq.trans (hP52 17 34 rfl rfl) (congrArg Value.bool hc276)) rfl) Try.underlying41 Try.sizeOf112 (hP52 19 36 rfl rfl) (RP.mono _ h0_0 (Le.trans l7 hE52)) (hP52 21 38 rfl rfl) hx31 (fun g299 o300 cs_g299 hrk_hat301 hat301=>?_)
 obtain rfl:=rTerm_iff.1 hrk_hat301
 exact L_nil ⟨rfl,_,_,rfl,Le.refl _,fun _ _=>⟨_,_,_,rfl,hrk_hat301,hat301⟩,hst⟩
 refine opsS_cons ?_ ?_
 intro f w_ H52 X52 hS52 hE52 hP52 hst
 obtain ⟨g303,o303,cs303,hv303,hrk_hat303,hat303⟩:=(hP52 22 39 rfl rfl)
 obtain rfl:=rTerm_iff.1 hrk_hat303
 refine L_fa (o':=o303 + 1) (g_yes rfl (Eq.trans (hP52 17 34 rfl rfl) (congrArg Value.bool hc276)) rfl) fa_112_1 hv303 rfl (L_nil ⟨rfl,_,_,rfl,Le.refl _,fun _ _=>⟨_,_,_,rfl,hrk_hat303,hat303⟩,hst⟩)
 refine opsS_cons ?_ ?_
 intro f w_ H52 X52 hS52 hE52 hP52 hst
 obtain ⟨g305,o305,cs305,hv305,hrk_hat305,hat305⟩:=(hP52 23 40 rfl rfl)
 obtain rfl:=rTerm_iff.1 hrk_hat305
 refine L_ld (v:=I x31.lit) (g_yes rfl (Eq.trans (hP52 17 34 rfl rfl) (congrArg Value.bool hc276)) rfl) Try.isAgg3 hv305 (At.cell (AtH.at hat305 hst.sub) (j:=1) rfl) (L_nil ⟨rfl,_,_,rfl,Le.refl _,fun _ _=>rfl,hst⟩)
 refine opsS_cons ?_ ?_
 intro f w_ H52 X52 hS52 hE52 hP52 hst
 obtain ⟨H307b,l308,s309,z310,k311⟩:=hst.borrow
 refine L_call (g_yes rfl (Eq.trans (hP52 17 34 rfl rfl) (congrArg Value.bool hc276)) rfl) Try.call96 (ops1 (hP52 24 41 rfl rfl)) (s_l1Abs_c (n_:=x31.lit) s309 hx41) ?_
 rintro _ w312 ⟨rfl,hst⟩
 have hst:=k311 hst c0
 exact L_nil ⟨rfl,_,_,rfl,Le.refl _,fun _ _=>rfl,hst⟩
 refine opsS_cons (fun f w_ _ _ s _ p hst=>L_fa (o':=1) (g_yes rfl (Eq.trans (p 17 34 rfl rfl) (congrArg Value.bool hc276)) rfl) fa_112_1 ((s 4 rfl).trans rfl) rfl (nO rfl rfl hst)) (opsS_cons (fun f w_ _ _ _ _ p hst=>L_ld (v:=I x_8.lit) (g_yes rfl (Eq.trans (p 17 34 rfl rfl) (congrArg Value.bool hc276)) rfl) Try.isAgg3 (p 26 43 rfl rfl) (At.cell0 (Blk.at (Star.blkAt 0 hst rfl)) (j:=1) rfl) (nO rfl rfl hst)) (opsS_nil))
 obtain ⟨H313b,l314,s315,z316,k317⟩:=hst.borrow
 refine L_call (g_yes rfl (Eq.trans (hT52 17 34 rfl rfl) (congrArg Value.bool hc276)) rfl) Try.call96 (ops1 (hT52 27 44 rfl rfl)) (s_l1Abs_c (n_:=x_8.lit) s315 hx48) ?_
 rintro _ w318 ⟨rfl,hst⟩
 have hst:=k317 hst c0
 refine L_geq (g_yes rfl (Eq.trans (hT52 17 34 rfl rfl) (congrArg Value.bool hc276)) rfl) (hT52 25 42 rfl rfl) rfl (L_pick (v:=Bo b50) (g_yes rfl (Eq.trans (hT52 14 31 rfl rfl) (congrArg Value.bool hc263)) rfl) (Eq.trans (hT52 17 34 rfl rfl) (congrArg Value.bool hc276)) (congrArg Value.bool (so hb50)) (L_pick (v:=Bo b51) rfl (Eq.trans (hT52 14 31 rfl rfl) (congrArg Value.bool hc263)) (congrArg Value.bool (so hb51)) (nn ?_)))
 have hst:=hst.get 1 rfl
 exact rj hR55 ⟨H52,hE52,((hS52 1 rfl).trans sf1),((hS52 3 rfl).trans sf3),rfl,(Star.keepN 1 hst)⟩
 rw [ite_f hc276] at hb50
 refine W_drawS 28 [isV (Pq g21 1),isV (I x_8.lit),isV (Bo x29),isV (Bo (!x29)),isV (Bo (!x29)),isV (Pt g21),isV (I x_8.coef),isV (Bo (decide (x_8.coef < 1))),isV (Bo ((!x29) || (decide (x_8.coef < 1)))),isV (Bo ((!x29) || (decide (x_8.coef < 1)))),isV (Pt g21),isV (I x_8.coef),isV (Bo (decide (x_8.coef > 1000))),isV (Bo (((!x29) || (decide (x_8.coef < 1))) || (decide (x_8.coef > 1000)))),isV (Bo (((!x29) || (decide (x_8.coef < 1))) || (decide (x_8.coef > 1000)))),isV (I i_5),isV (Bo (decide ((i_5 : Int) > 0))),isV (Bo (decide ((i_5 : Int) > 0))),isV (undef),isV (undef),isV (undef),isV (undef),isV (undef),isV (undef),isV (undef),isV (undef),isV (undef),isV (undef)] [box g21 112 #[I x_8.coef,I x_8.lit],box g3 43 #[v0_0,I c.bound]] [] ([]) [([],[]),([],[]),([],[]),([],[]),([],[]),([],[]),([],[]),([],[]),([],[]),([],[]),([],[]),([],[]),([],[]),([],[]),([],[]),([],[]),([],[]),([],[]),([],[]),([],[]),([],[]),([],[]),([],[]),([],[]),([],[]),([],[]),([],[]),([],[])] (S:=[]) Try_mix (by kernel_rfl) rfl (by kernel_rfl) (amF_cons (mono_V _) (amF_cons (mono_V _) (amF_cons (mono_V _) (amF_cons (mono_V _) (amF_cons (mono_V _) (amF_cons (mono_V _) (amF_cons (mono_V _) (amF_cons (mono_V _) (amF_cons (mono_V _) (amF_cons (mono_V _) (amF_cons (mono_V _) (amF_cons (mono_V _) (amF_cons (mono_V _) (amF_cons (mono_V _) (amF_cons (mono_V _) (amF_cons (mono_V _) (amF_cons (mono_V _) (amF_cons (mono_V _) (amF_cons (mono_V _) (amF_cons (mono_V _) (amF_cons (mono_V _) (amF_cons (mono_V _) (amF_cons (mono_V _) (amF_cons (mono_V _) (amF_cons (mono_V _) (amF_cons (mono_V _) (amF_cons (mono_V _) (amF_cons (mono_V _) amF_nil)))))))))))))))))))))))))))) hst ?_ (fun f w_ H52 hS52 hE52 hT52 hst=>?_)
 refine opsS_cons (fun f w_ _ _ s _ _ hst=>fA 1 fa_112_1 ((s 4 rfl).trans rfl) rfl (nO rfl rfl hst)) (opsS_cons (fun f w_ _ _ _ _ p hst=>ldB 0 hst Try.isAgg3 (p 0 17 rfl rfl) rfl rfl (nO rfl rfl hst)) (opsS_cons ?_ ?_))
 intro f w_ H52 X52 hS52 hE52 hP52 hst
 obtain ⟨H325b,l326,s327,z328,k329⟩:=hst.borrow
 refine L_call rfl Try.call95 (ops1 (hP52 1 18 rfl rfl)) (s_l1Lit_c (n_:=x_8.lit) s327 hx29) ?_
 rintro _ w330 ⟨rfl,hst⟩
 have hst:=k329 hst c0
 exact L_nil ⟨rfl,_,_,rfl,Le.refl _,fun _ _=>rfl,hst⟩
 refine opsS_cons (fun f w_ _ _ _ _ p hst=>L_not_ rfl (p 2 19 rfl rfl) (nO rfl rfl hst)) (opsS_cons (fun f w_ _ _ _ _ p hst=>mF (p 3 20 rfl rfl) rfl (nO rfl rfl hst)) (opsS_cons (fun f w_ _ _ s _ p hst=>L_fa (o':=0) (g_yes rfl (Eq.trans (p 4 21 rfl rfl) (congrArg Value.bool hc56)) rfl) fa_112_0 ((s 4 rfl).trans rfl) rfl (nO rfl rfl hst)) (opsS_cons (fun f w_ _ _ _ _ p hst=>L_ld (v:=I x_8.coef) (g_yes rfl (Eq.trans (p 4 21 rfl rfl) (congrArg Value.bool hc56)) rfl) Try.isAgg3 (p 5 22 rfl rfl) (At.cell0 (Blk.at (Star.blkAt 0 hst rfl)) (j:=0) rfl) (nO rfl rfl hst)) (opsS_cons (fun f w_ _ _ _ _ p hst=>L_lss (g_yes rfl (Eq.trans (p 4 21 rfl rfl) (congrArg Value.bool hc56)) rfl) (p 6 23 rfl rfl) rfl (nO rfl rfl hst)) (opsS_cons (fun f w_ _ _ _ _ p hst=>pkT (v:=Bo ((!x29) || (decide (x_8.coef < 1)))) (p 4 21 rfl rfl) hc56 rfl (or_f hc56 (p 7 24 rfl rfl)) (nO rfl rfl hst)) (opsS_cons (fun f w_ _ _ _ _ p hst=>mF (p 8 25 rfl rfl) rfl (nO rfl rfl hst)) (opsS_cons (fun f w_ _ _ s _ p hst=>L_fa (o':=0) (g_yes rfl (Eq.trans (p 9 26 rfl rfl) (congrArg Value.bool hc194)) rfl) fa_112_0 ((s 4 rfl).trans rfl) rfl (nO rfl rfl hst)) (opsS_cons (fun f w_ _ _ _ _ p hst=>L_ld (v:=I x_8.coef) (g_yes rfl (Eq.trans (p 9 26 rfl rfl) (congrArg Value.bool hc194)) rfl) Try.isAgg3 (p 10 27 rfl rfl) (At.cell0 (Blk.at (Star.blkAt 0 hst rfl)) (j:=0) rfl) (nO rfl rfl hst)) (opsS_cons (fun f w_ _ _ _ _ p hst=>L_gtr (g_yes rfl (Eq.trans (p 9 26 rfl rfl) (congrArg Value.bool hc194)) rfl) (p 11 28 rfl rfl) rfl (nO rfl rfl hst)) (opsS_cons (fun f w_ _ _ _ _ p hst=>pkT (v:=Bo (((!x29) || (decide (x_8.coef < 1))) || (decide (x_8.coef > 1000)))) (p 9 26 rfl rfl) hc194 rfl (or_f hc194 (p 12 29 rfl rfl)) (nO rfl rfl hst)) (opsS_cons (fun f w_ _ _ _ _ p hst=>mF (p 13 30 rfl rfl) rfl (nO rfl rfl hst)) (opsS_cons (fun f w_ _ _ s _ p hst=>L_mv (v:=I i_5) (g_yes rfl (Eq.trans (p 14 31 rfl rfl) (congrArg Value.bool hc263)) rfl) ((s 3 rfl).trans sf3) (nO rfl rfl hst)) (opsS_cons (fun f w_ _ _ _ _ p hst=>L_gtr (g_yes rfl (Eq.trans (p 14 31 rfl rfl) (congrArg Value.bool hc263)) rfl) (p 15 32 rfl rfl) rfl (nO rfl rfl hst)) (opsS_cons (fun f w_ _ _ _ _ p hst=>L_mv (v:=Bo (decide ((i_5 : Int) > 0))) (g_yes rfl (Eq.trans (p 14 31 rfl rfl) (congrArg Value.bool hc263)) rfl) (p 16 33 rfl rfl) (nO rfl rfl hst)) (oP (fun _ _ p=>gN (p 17 34 rfl rfl) hc276 rfl) (fun _=>rfl) (oP (fun _ _ p=>gN (p 17 34 rfl rfl) hc276 rfl) (fun _=>rfl) (oP (fun _ _ p=>gN (p 17 34 rfl rfl) hc276 rfl) (fun _=>rfl) (oP (fun _ _ p=>gN (p 17 34 rfl rfl) hc276 rfl) (fun _=>rfl) (oP (fun _ _ p=>gN (p 17 34 rfl rfl) hc276 rfl) (fun _=>rfl) (oP (fun _ _ p=>gN (p 17 34 rfl rfl) hc276 rfl) (fun _=>rfl) (oP (fun _ _ p=>gN (p 17 34 rfl rfl) hc276 rfl) (fun _=>rfl) (oP (fun _ _ p=>gN (p 17 34 rfl rfl) hc276 rfl) (fun _=>rfl) (oP (fun _ _ p=>gN (p 17 34 rfl rfl) hc276 rfl) (fun _=>rfl) (oP (fun _ _ p=>gN (p 17 34 rfl rfl) hc276 rfl) (fun _=>rfl) (opsS_nil)))))))))))))))))))))))))
 refine ps (g_no rfl (Eq.trans (hT52 17 34 rfl rfl) (congrArg Value.bool hc276)) rfl rfl) (ps (g_no rfl (Eq.trans (hT52 17 34 rfl rfl) (congrArg Value.bool hc276)) rfl rfl) (L_pick (v:=Bo b50) (g_yes rfl (Eq.trans (hT52 14 31 rfl rfl) (congrArg Value.bool hc263)) rfl) (Eq.trans (hT52 17 34 rfl rfl) (congrArg Value.bool hc276)) (congrArg Value.bool (so hb50)) (L_pick (v:=Bo b51) rfl (Eq.trans (hT52 14 31 rfl rfl) (congrArg Value.bool hc263)) (congrArg Value.bool (so hb51)) (nn ?_))))
 have hst:=hst.get 1 rfl
 exact rj hR55 ⟨H52,hE52,((hS52 1 rfl).trans sf1),((hS52 3 rfl).trans sf3),rfl,(Star.keepN 1 hst)⟩
 intro f w_ hR
 obtain ⟨H53,l54,sf1,sf3,sf48,hst⟩:=rk hR55 hR
 refine W_cond (b:=b51) sf48 (fun hc331=>?_) (fun hc331=>?_)
 have hB8:=(ite_t hc331).symm.trans hB8
 refine sq (aB rfl (nn (W_ret (retG1 (v1:=Bo false) Try.results77 rfl ?_))))
 obtain rfl:=so hB8
 obtain rfl:=so hL8
 obtain rfl:=so hF
 exact ⟨rfl,(Star.down (Star.keepN 0 hst) (Le.trans l7 l54) c0)⟩
 have hB8:=(ite_f hc331).symm.trans hB8
 refine W_skip (W_region (mF sf3 rfl (L_add rfl rfl rfl (aI rfl (nn ?_)))))
 obtain rfl:=so hB8
 show ∃ m,m < _∧I8 m _ _
 refine ⟨rest8.length,by simp,?_⟩
 exact ij hI8 ⟨i_5 + 1,rest8,H53,rfl,drop_next hd8,by simp at hl8; omega,hL8,(Le.trans l7 l54),sf1,(Eq.trans rfl (congrArg (Value.int .i64) (i64_succ (n:=c.terms.length) (by simp at hl8; omega) hlen8))),hst⟩
 rcases suf8 with _ | ⟨_,_⟩
 obtain rfl:=range_nil hL8
 refine W_exit (rj hR8 ⟨H6,rfl,l7,sf1,hst⟩)
 exact absurd (of_decide_eq_false hc9) (by simp at hl8; omega)
 intro f w_ hR
 obtain ⟨H6,rfl,l7,sf1,hst⟩:=rk hR8 hR
 refine W_seq ?_
 obtain ⟨R332,hR332⟩:=exR fun f w_=>f 2 = Bo ((decide (c.bound ≥ 0)) && (decide (c.bound≤20000)))∧Star H6 w_ ([])
 refine W_join R332 ?_ ?_
 refine W_region (fA 1 fa_43_1 sf1 rfl (ldB 0 hst Try.isAgg3 rfl rfl rfl (L_geq rfl rfl rfl (mB rfl (L_split (d:=52) (b:=decide (c.bound ≥ 0)) rfl (fun hc333=>?_) (fun hc333=>?_))))))
 refine fA 1 fa_43_1 sf1 rfl (ldB 0 hst Try.isAgg3 rfl rfl rfl (L_leq rfl rfl rfl (L_pick (v:=Bo ((decide (c.bound ≥ 0)) && (decide (c.bound≤20000)))) rfl rfl (and_t hc333 rfl) (aB rfl (nn (rj hR332 ⟨rfl,(Star.keepN 0 hst)⟩))))))
 refine ps rfl (ps rfl (ps rfl (L_pick (v:=Bo ((decide (c.bound ≥ 0)) && (decide (c.bound≤20000)))) rfl rfl (and_f hc333) (aB rfl (nn (rj hR332 ⟨rfl,(Star.keepN 0 hst)⟩))))))
 intro f w_ hR
 obtain ⟨sf2,hst⟩:=rk hR332 hR
 refine W_ret (retG1 (v1:=Bo ((decide (c.bound ≥ 0)) && (decide (c.bound≤20000)))) Try.results77 sf2 ?_)
 obtain rfl:=so hF
 exact ⟨rfl,(Star.down hst l7 c0)⟩
theorem s_ProblemValid_c {list : List Con} {v0 : Value} {H : FH} {w : World} (hst : Star H w []) (h0 : (rS 43 (rCon 112)).rel H [v0] list) {r : Bool} (hF : s_ProblemValid list = some r) :
 C Try.prog 27 #[v0] w fun v w'=>v = Bo r∧Star H w' []:=by
 unfold s_ProblemValid at hF
 refine C_enter Try.func27 rfl Try.ntmps27 rfl (sq (aB rfl (nq (sq (aI rfl (nn ?_))))))
 have hlen2 : List.length list≤9223372036854775807:=len_le (slice_len h0)
 obtain ⟨j2,hL2,hF⟩:=bind_some hF
 obtain ⟨R2,hR2⟩:=exR fun f w_=>j2 = .nx ()∧f 0 = v0∧Star H w_ ([])
 refine W_join R2 ?_ ?_
 refine W_block ?_
 obtain ⟨I2,hI2⟩:=exI fun n f w_=>∃ i_1 : Nat,∃ suf2 : List Con,n = suf2.length∧List.drop i_1 list = suf2∧i_1 + suf2.length = list.length∧rangeL s_ProblemValid_b1 suf2 i_1 () = some j2∧f 0 = v0∧f 3 = I i_1∧Star H w_ ([])
 refine W_loop I2 (n:=list.length) ?_ ?_
 exact ij hI2 ⟨0,list,rfl,rfl,Nat.zero_add _,hL2,rfl,rfl,hst⟩
 intro n2 f w_ hI
 obtain ⟨i_1,suf2,rfl,hd2,hl2,hL2,sf0,sf3,hst⟩:=ik hI2 hI
 refine W_seq (sq (mF sf3 rfl (mF sf0 rfl (L_len rfl Try.underlying23 rfl (slice_len h0) (L_lss rfl rfl rfl (nn (W_cond (b:=decide ((i_1 : Int) < (list.length : Int))) rfl (fun hc3=>?_) (fun hc3=>?_))))))))
 have hlt2:=of_decide_eq_true hc3
 rcases suf2 with _ | ⟨x_2,rest2⟩
 exact absurd hlt2 (by simp at hl2; omega)
 obtain ⟨o2,hB2,hL2⟩:=range_cons hL2
 rw [s_ProblemValid_b1] at hB2
 have hix2:=drop_idx hd2
 refine W_skip (W_seq (W_block (W_seq ?_)))
 obtain ⟨x13,hx13,hB2⟩:=bind_some hB2
 refine W_region (mF sf0 rfl (mF sf3 rfl (L_ix (r:=(rCon 112)) rfl Try.underlying23 Try.sizeOf43 rfl h0 rfl hix2 (fun g15 o16 cs_g15 hrk_hat17 hat17=>?_))))
 obtain ⟨u18_0,rfl,hu18_0⟩:=rCon_iff.1 hrk_hat17
 refine L_lda (cs:=[u18_0,I x_2.bound]) rfl Try.isAgg43 Try.sizeOf43 rfl (At.sub (AtH.at hat17 hst.sub) 0 2) rfl ?_
 obtain ⟨H19b,l20,s21,z22,k23⟩:=hst.borrow
 refine L_call rfl Try.call77 (ops1 rfl) (s_ConstraintValid_c (c:=x_2) s21 (RP.mono _ hu18_0 l20) hx13) ?_
 rintro _ w24 ⟨rfl,hst⟩
 have hst:=k23 hst c0
 refine L_not_ rfl rfl (nn (W_cond (b:=(!x13)) rfl (fun hc25=>?_) (fun hc25=>?_)))
 have hB2:=(ite_t hc25).symm.trans hB2
 refine sq (aB rfl (nn (W_ret (retG1 (v1:=Bo false) Try.results27 rfl ?_))))
 obtain rfl:=so hB2
 obtain rfl:=so hL2
 obtain rfl:=so hF
 exact ⟨rfl,hst⟩
 have hB2:=(ite_f hc25).symm.trans hB2
 refine W_skip (W_region (mF sf3 rfl (L_add rfl rfl rfl (aI rfl (nn ?_)))))
 obtain rfl:=so hB2
 show ∃ m,m < _∧I2 m _ _
 refine ⟨rest2.length,by simp,?_⟩
 exact ij hI2 ⟨i_1 + 1,rest2,rfl,drop_next hd2,by simp at hl2; omega,hL2,sf0,(Eq.trans rfl (congrArg (Value.int .i64) (i64_succ (n:=list.length) (by simp at hl2; omega) hlen2))),hst⟩
 rcases suf2 with _ | ⟨_,_⟩
 obtain rfl:=range_nil hL2
 refine W_exit (rj hR2 ⟨rfl,sf0,hst⟩)
 exact absurd (of_decide_eq_false hc3) (by simp at hl2; omega)
 intro f w_ hR
 obtain ⟨rfl,sf0,hst⟩:=rk hR2 hR
 refine sq (mF sf0 rfl (L_len rfl Try.underlying23 rfl (slice_len h0) (L_leq rfl rfl rfl (aB rfl (nn (W_ret (retG1 (v1:=Bo (decide ((list.length : Int)≤400))) Try.results27 rfl ?_)))))))
 obtain rfl:=so hF
 exact ⟨rfl,hst⟩
theorem i_isFuel_c {fuel : Int} {H : FH} {w : World} (hst : Star H w []) {r : Bool} (hF : i_isFuel fuel = some r) :
 C Try.prog 65 #[I fuel] w fun v w'=>v = Bo r∧Star H w' []:=by
 unfold i_isFuel at hF
 refine C_enter Try.func65 rfl Try.ntmps65 rfl (sq (aB rfl (nq ?_)))
 obtain ⟨x6,hx6,hF⟩:=bind_some hF
 refine W_region (mI rfl ?_)
 obtain ⟨H8b,l9,s10,z11,k12⟩:=hst.borrow
 refine L_call rfl Try.call100 (ops3 rfl rfl rfl) (i_within_c (n_:=fuel) (low:=0) (high:=2000) s10 hx6) ?_
 rintro _ w13 ⟨rfl,hst⟩
 have hst:=k12 hst c0
 refine aB rfl (nn (W_ret (retG1 (v1:=Bo x6) Try.results65 rfl ?_)))
 obtain rfl:=so hF
 exact ⟨rfl,hst⟩
theorem slices_Clone_implConstraint_c {s : List Con} {v0 : Value} {H : FH} {w : World} {R : List Ass} (hst : Star H w R) (h0 : (rS 43 (rCon 112)).rel H [v0] s) {r : List Con} (hF : slices_Clone_implConstraint s = some r) :
 C Try.prog 66 #[v0] w fun v w'=>∃ H' : FH,Le H H'∧∃ (u1 : Value),v = u1∧Star H' w' (oF 43 (rCon 112) u1 r :: R):=by
 unfold slices_Clone_implConstraint at hF
 refine C_enter Try.func66 rfl Try.ntmps66 rfl (sq (aV S0 rfl (nq (sq (mV v0 rfl ?_)))))
 obtain ⟨a1,cap1,hsl1,_,_⟩:=(slice_len h0)
 refine L_nileq (a:=a1) rfl Try.underlying23 (Eq.trans rfl hsl1) rfl ?_
 rw [← hsl1]
 refine nn ?_
 rcases Bool.eq_false_or_eq_true (isNilS v0) with hn2 | hn2
 refine W_cond (b:=true) (Eq.trans rfl (congrArg Value.bool hn2)) (fun _=>?_) (fun h=>nomatch h)
 obtain rfl:=nil_of h0 hn2
 refine sq (aV S0 rfl (nn (W_ret (retG1 (v1:=S0) Try.results66 rfl ?_))))
 simp [app] at hF
 subst hF
 have hst:=Star.addNil (R:=(OR.frz (rCon 112))) (e:=43) hst
 exact ⟨H,(Le.refl _),S0,rfl,hst⟩
 refine W_cond (b:=false) (Eq.trans rfl (congrArg Value.bool hn2)) (fun h=>nomatch h) (fun _=>?_)
 refine W_skip (W_seq ?_)
 obtain ⟨x7,hx7,hF⟩:=bind_some hF
 refine W_region (L_bs rfl parts0 (bs_23_0  ) hst (fun g11 w12 hst=>?_))
 have hst:=Star.mkRow (R:=(OR.frz (rCon 112))) [] [] 0 hst rfl rfl rfl (by decide)
 refine mV v0 rfl (L_app (v:=(Sl g11 0 0)) (u:=v0) rfl et_23 rfl rfl hst h0 hx7 (fun v14 w15 hst=>aV v14 rfl (nn (W_ret (retG1 (v1:=v14) Try.results66 rfl ?_)))))
 obtain rfl:=so hF
 exact ⟨H,(Le.refl _),v14,rfl,hst⟩
theorem slices_Clone_int_c {s : List Int} {v0 : Value} {H : FH} {w : World} (hst : Star H w []) (h0 : (rS 3 RP.int).rel H [v0] s) {r : List Int} (hF : slices_Clone_int s = some r) :
 C Try.prog 90 #[v0] w fun v w'=>∃ (u1 : Value),v = u1∧Star H w' [oF 3 RP.int u1 r]:=by
 unfold slices_Clone_int at hF
 refine C_enter Try.func90 rfl Try.ntmps90 rfl (sq (aV S0 rfl (nq (sq (mV v0 rfl ?_)))))
 obtain ⟨a1,cap1,hsl1,_,_⟩:=(slice_len h0)
 refine L_nileq (a:=a1) rfl Try.underlying65 (Eq.trans rfl hsl1) rfl ?_
 rw [← hsl1]
 refine nn ?_
 rcases Bool.eq_false_or_eq_true (isNilS v0) with hn2 | hn2
 refine W_cond (b:=true) (Eq.trans rfl (congrArg Value.bool hn2)) (fun _=>?_) (fun h=>nomatch h)
 obtain rfl:=nil_of h0 hn2
 refine sq (aV S0 rfl (nn (W_ret (retG1 (v1:=S0) Try.results90 rfl ?_))))
 simp [app] at hF
 subst hF
 have hst:=Star.addNil (R:=(OR.frz RP.int)) (e:=3) hst
 exact ⟨S0,rfl,hst⟩
 refine W_cond (b:=false) (Eq.trans rfl (congrArg Value.bool hn2)) (fun h=>nomatch h) (fun _=>?_)
 refine W_skip (W_seq ?_)
 obtain ⟨x7,hx7,hF⟩:=bind_some hF
 refine W_region (L_bs rfl parts0 (bs_65_0  ) hst (fun g11 w12 hst=>?_))
 have hst:=Star.mkRow (R:=(OR.frz RP.int)) [] [] 0 hst rfl rfl rfl (by decide)
 refine mV v0 rfl (L_app (v:=(Sl g11 0 0)) (u:=v0) rfl et_65 rfl rfl hst h0 hx7 (fun v14 w15 hst=>aV v14 rfl (nn (W_ret (retG1 (v1:=v14) Try.results90 rfl ?_)))))
 obtain rfl:=so hF
 exact ⟨v14,rfl,hst⟩
theorem i_under_c {l : Int} {p : List Int} {v1 : Value} {H : FH} {w : World} (hst : Star H w []) (h1 : (rS 3 RP.int).rel H [v1] p) {r : Int} (hF : i_under l p = some r) :
 C Try.prog 146 #[I l,v1] w fun v w'=>v = I r∧Star H w' []:=by
 unfold i_under at hF
 refine C_enter Try.func146 rfl Try.ntmps146 rfl (sq (aI rfl (nq (sq (mI rfl (L_lss rfl rfl rfl (nn (W_cond (b:=decide (l < 0)) rfl (fun hc1=>?_) (fun hc1=>?_)))))))))
 have hF:=(ite_t hc1).symm.trans hF
 refine W_seq ?_
 obtain ⟨x2,hx2,hF⟩:=bind_some hF
 refine W_region (mV v1 rfl (mI rfl (L_neg rfl rfl (L_sub rfl rfl rfl (L_ix (r:=RP.int) rfl Try.underlying65 Try.sizeOf3 rfl h1 rfl hx2 (fun g7 o8 cs_g7 hrk_hat9 hat9=>?_))))))
 obtain rfl : _ = [_]:=hrk_hat9
 refine L_ld rfl Try.isAgg3 rfl (At.cell (AtH.at hat9 hst.sub) (j:=0) rfl) (L_neg rfl rfl (aI rfl (nn (W_ret (retG1 (v1:=I (i64 (-x2))) Try.results146 rfl ?_)))))
 obtain rfl:=so hF
 exact ⟨rfl,hst⟩
 have hF:=(ite_f hc1).symm.trans hF
 refine W_skip (W_seq ?_)
 obtain ⟨x11,hx11,hF⟩:=bind_some hF
 refine W_region (mV v1 rfl (mI rfl (L_sub rfl rfl rfl (L_ix (r:=RP.int) rfl Try.underlying65 Try.sizeOf3 rfl h1 rfl hx11 (fun g16 o17 cs_g16 hrk_hat18 hat18=>?_)))))
 obtain rfl : _ = [_]:=hrk_hat18
 refine L_ld rfl Try.isAgg3 rfl (At.cell (AtH.at hat18 hst.sub) (j:=0) rfl) (aI rfl (nn (W_ret (retG1 (v1:=I x11) Try.results146 rfl ?_))))
 obtain rfl:=so hF
 exact ⟨rfl,hst⟩
theorem i_Constraint_slack_c {c : Con} {p : List Int} {v0_0 : Value} {v1 : Value} {H : FH} {w : World} (hst : Star H w []) (h0_0 : (rS 112 rTerm).rel H [v0_0] c.terms) (h1 : (rS 3 RP.int).rel H [v1] p) {r : Int} (hF : i_Constraint_slack c p = some r) :
 C Try.prog 131 #[.agg #[v0_0,I c.bound],v1] w fun v w'=>v = I r∧Star H w' []:=by
 unfold i_Constraint_slack at hF
 refine C_enter Try.func131 rfl Try.ntmps131 rfl (sq (L_box (v:=.agg #[v0_0,I c.bound]) (cs:=#[v0_0,I c.bound]) rfl rfl rfl hst (fun g3 w4 hst=>aI rfl (ns (fA 1 fa_43_1 rfl rfl (ldB 0 hst Try.isAgg3 rfl rfl rfl (L_neg rfl rfl (aI rfl (nq (sq (fA 0 fa_43_0 rfl rfl (ldB 0 hst Try.isAgg41 rfl rfl rfl (L_len rfl Try.underlying41 rfl (slice_len h0_0) (mI rfl (nn ?_)))))))))))))))
 have hlen7 : List.length c.terms≤9223372036854775807:=len_le (slice_len h0_0)
 obtain ⟨j7,hL7,hF⟩:=bind_some hF
 obtain ⟨R7,hR7⟩:=exR fun f w_=>∃ out_6 : Int,j7 = .nx out_6∧f 5 = I out_6∧Star H w_ ([])
 refine W_join R7 ?_ ?_
 refine W_block ?_
 obtain ⟨I7,hI7⟩:=exI fun n f w_=>∃ i_5 : Nat,∃ suf7 : List Term,∃ out_6 : Int,n = suf7.length∧List.drop i_5 c.terms = suf7∧i_5 + suf7.length = c.terms.length∧rangeL (i_Constraint_slack_b1 p) suf7 i_5 out_6 = some j7∧f 1 = v1∧f 5 = I out_6∧f 12 = v0_0∧f 13 = I (c.terms.length : Int)∧f 14 = I i_5∧Star H w_ ([])
 refine W_loop I7 (n:=c.terms.length) ?_ ?_
 exact ij hI7 ⟨0,c.terms,i64 (-c.bound),rfl,rfl,Nat.zero_add _,hL7,rfl,rfl,rfl,rfl,rfl,(Star.keepN 0 hst)⟩
 intro n7 f w_ hI
 obtain ⟨i_5,suf7,out_6,rfl,hd7,hl7,hL7,sf1,sf5,sf12,sf13,sf14,hst⟩:=ik hI7 hI
 refine sq (L_lss rfl sf14 sf13 (nq (W_cond (b:=decide ((i_5 : Int) < (c.terms.length : Int))) rfl (fun hc8=>?_) (fun hc8=>?_))))
 have hlt7:=of_decide_eq_true hc8
 rcases suf7 with _ | ⟨x_7,rest7⟩
 exact absurd hlt7 (by simp at hl7; omega)
 obtain ⟨o7,hB7,hL7⟩:=range_cons hL7
 rw [i_Constraint_slack_b1] at hB7
 have hix7:=drop_idx hd7
 refine W_skip (W_seq (W_block (sq (L_ix (r:=rTerm) rfl Try.underlying41 Try.sizeOf112 sf12 h0_0 sf14 hix7 (fun g16 o17 cs_g16 hrk_hat18 hat18=>?_)))))
 obtain rfl:=rTerm_iff.1 hrk_hat18
 refine L_lda (cs:=[I x_7.coef,I x_7.lit]) rfl Try.isAgg112 Try.sizeOf112 rfl (At.sub (AtH.at hat18 hst.sub) 0 2) rfl (L_al (cs:=#[I 0,I 0]) rfl Try.zeroValue112 rfl hst (fun g20 w21 hst=>L_staB (vs:=#[I x_7.coef,I x_7.lit]) (cs2:=#[I x_7.coef,I x_7.lit]) 0 rfl Try.sizeOf112 rfl rfl rfl (ones_cons rfl (ones_cons rfl ones_nil)) hst rfl (by show 0 + 2≤2; decide) rfl (fun w22 hst=>nq ?_)))
 obtain ⟨x28,hx28,hB7⟩:=bind_some hB7
 refine W_region (fA 1 fa_112_1 rfl rfl (ldB 0 hst Try.isAgg3 rfl rfl rfl (mF sf1 rfl ?_)))
 obtain ⟨H30b,l31,s32,z33,k34⟩:=hst.borrow
 refine L_call rfl Try.call146 (ops2 rfl rfl) (i_under_c (l:=x_7.lit) (p:=p) s32 (RP.mono _ h1 l31) hx28) ?_
 rintro _ w35 ⟨rfl,hst⟩
 have hst:=k34 hst c0
 refine L_geq rfl rfl rfl (nn ?_)
 obtain ⟨out_36,hA37,hB7⟩:=bind_some hB7
 obtain ⟨R37,hR37⟩:=exR fun f w_=>f 1 = v1∧f 5 = I out_36∧f 12 = v0_0∧f 13 = I (c.terms.length : Int)∧f 14 = I i_5∧Star H w_ ([])
 refine W_join R37 ?_ ?_
 refine W_cond (b:=decide (x28 ≥ 0)) rfl (fun hc38=>?_) (fun hc38=>?_)
 have hA37:=(ite_t hc38).symm.trans hA37
 refine W_region (mF sf5 rfl (fA 0 fa_112_0 rfl rfl (ldB 0 hst Try.isAgg3 rfl rfl rfl (L_add rfl rfl rfl (aI rfl (nn ?_))))))
 obtain rfl:=so hA37
 exact rj hR37 ⟨sf1,rfl,sf12,sf13,sf14,(Star.keepN 0 hst)⟩
 have hA37:=(ite_f hc38).symm.trans hA37
 refine W_skip ?_
 obtain rfl:=so hA37
 exact rj hR37 ⟨sf1,sf5,sf12,sf13,sf14,(Star.keepN 0 hst)⟩
 intro f w_ hR
 obtain ⟨sf1,sf5,sf12,sf13,sf14,hst⟩:=rk hR37 hR
 refine W_region (L_add rfl sf14 rfl (mI rfl (nn ?_)))
 obtain rfl:=so hB7
 show ∃ m,m < _∧I7 m _ _
 refine ⟨rest7.length,by simp,?_⟩
 exact ij hI7 ⟨i_5 + 1,rest7,out_36,rfl,drop_next hd7,by simp at hl7; omega,hL7,sf1,sf5,sf12,sf13,(Eq.trans rfl (congrArg (Value.int .i64) (i64_succ (n:=c.terms.length) (by simp at hl7; omega) hlen7))),hst⟩
 rcases suf7 with _ | ⟨_,_⟩
 obtain rfl:=range_nil hL7
 refine W_exit (rj hR7 ⟨out_6,rfl,sf5,hst⟩)
 exact absurd (of_decide_eq_false hc8) (by simp at hl7; omega)
 intro f w_ hR
 obtain ⟨out_6,rfl,sf5,hst⟩:=rk hR7 hR
 refine sq (mF sf5 rfl (aI rfl (nn (W_ret (retG1 (v1:=I out_6) Try.results131 rfl ?_)))))
 obtain rfl:=so hF
 exact ⟨rfl,hst⟩
theorem i_Constraint_implied_c {c : Con} {p : List Int} {v0_0 : Value} {v1 : Value} {H : FH} {w : World} (hst : Star H w []) (h0_0 : (rS 112 rTerm).rel H [v0_0] c.terms) (h1 : (rS 3 RP.int).rel H [v1] p) {r : List Int} (hF : i_Constraint_implied c p = some r) :
 C Try.prog 132 #[.agg #[v0_0,I c.bound],v1] w fun v w'=>∃ (u1 : Value),v = u1∧Star H w' [oF 3 RP.int u1 r]:=by
 unfold i_Constraint_implied at hF
 refine C_enter Try.func132 rfl Try.ntmps132 rfl (sq (L_box (v:=.agg #[v0_0,I c.bound]) (cs:=#[v0_0,I c.bound]) rfl rfl rfl hst (fun g3 w4 hst=>aV S0 rfl (nq ?_))))
 obtain ⟨x10,hx10,hF⟩:=bind_some hF
 refine W_region (L_lda (cs:=[v0_0,I c.bound]) rfl Try.isAgg43 Try.sizeOf43 rfl (At.sub0 (Blk.at (Star.blkAt 0 hst rfl)) 0 2) rfl (mV v1 rfl ?_))
 obtain ⟨H12b,l13,s14,z15,k16⟩:=hst.borrow
 refine L_call rfl Try.call131 (ops2 rfl rfl) (i_Constraint_slack_c (c:=c) (p:=p) s14 (RP.mono _ h0_0 l13) (RP.mono _ h1 l13) hx10) ?_
 rintro _ w17 ⟨rfl,hst⟩
 have hst:=k16 hst c0
 refine aI rfl (ns (aV S0 rfl (nq (sq (fA 0 fa_43_0 rfl rfl (ldB 0 hst Try.isAgg41 rfl rfl rfl (L_len rfl Try.underlying41 rfl (slice_len h0_0) (mI rfl (nn ?_)))))))))
 have hlen21 : List.length c.terms≤9223372036854775807:=len_le (slice_len h0_0)
 obtain ⟨j21,hL21,hF⟩:=bind_some hF
 obtain ⟨R21,hR21⟩:=exR fun f w_=>∃ out_19 : List Int,∃ v19_out : Value,j21 = .nx out_19∧f 6 = v19_out∧Star H w_ ([oF 3 RP.int v19_out out_19])
 refine W_join R21 ?_ ?_
 refine W_block ?_
 obtain ⟨I21,hI21⟩:=exI fun n f w_=>∃ i_18 : Nat,∃ suf21 : List Term,∃ out_19 : List Int,∃ v19_out : Value,n = suf21.length∧List.drop i_18 c.terms = suf21∧i_18 + suf21.length = c.terms.length∧rangeL (i_Constraint_implied_b1 p x10) suf21 i_18 out_19 = some j21∧f 1 = v1∧f 5 = I x10∧f 6 = v19_out∧f 13 = v0_0∧f 14 = I (c.terms.length : Int)∧f 15 = I i_18∧Star H w_ ([oF 3 RP.int v19_out out_19])
 have hst:=Star.addNil (R:=(OR.frz RP.int)) (e:=3) hst
 refine W_loop I21 (n:=c.terms.length) ?_ ?_
 exact ij hI21 ⟨0,c.terms,[],S0,rfl,rfl,Nat.zero_add _,hL21,rfl,rfl,rfl,rfl,rfl,rfl,(Star.keepN 1 hst)⟩
 intro n21 f w_ hI
 obtain ⟨i_18,suf21,out_19,v19_out,rfl,hd21,hl21,hL21,sf1,sf5,sf6,sf13,sf14,sf15,hst⟩:=ik hI21 hI
 refine sq (L_lss rfl sf15 sf14 (nq (W_cond (b:=decide ((i_18 : Int) < (c.terms.length : Int))) rfl (fun hc23=>?_) (fun hc23=>?_))))
 have hlt21:=of_decide_eq_true hc23
 rcases suf21 with _ | ⟨x_21,rest21⟩
 exact absurd hlt21 (by simp at hl21; omega)
 obtain ⟨o21,hB21,hL21⟩:=range_cons hL21
 rw [i_Constraint_implied_b1] at hB21
 have hix21:=drop_idx hd21
 refine W_skip (W_seq (W_block (sq (L_ix (r:=rTerm) rfl Try.underlying41 Try.sizeOf112 sf13 h0_0 sf15 hix21 (fun g31 o32 cs_g31 hrk_hat33 hat33=>?_)))))
 obtain rfl:=rTerm_iff.1 hrk_hat33
 refine L_lda (cs:=[I x_21.coef,I x_21.lit]) rfl Try.isAgg112 Try.sizeOf112 rfl (At.sub (AtH.at hat33 hst.sub) 0 2) rfl (L_al (cs:=#[I 0,I 0]) rfl Try.zeroValue112 rfl hst (fun g35 w36 hst=>L_staB (vs:=#[I x_21.coef,I x_21.lit]) (cs2:=#[I x_21.coef,I x_21.lit]) 0 rfl Try.sizeOf112 rfl rfl rfl (ones_cons rfl (ones_cons rfl ones_nil)) hst rfl (by show 0 + 2≤2; decide) rfl (fun w37 hst=>nq ?_)))
 obtain ⟨x43,hx43,hB21⟩:=bind_some hB21
 obtain ⟨R45,hR45⟩:=exR fun f w_=>f 1 = v1∧f 5 = I x10∧f 6 = v19_out∧f 8 = Pt g35∧f 13 = v0_0∧f 14 = I (c.terms.length : Int)∧f 15 = I i_18∧f 29 = Bo ((x43 == 0) && (decide (x_21.coef > x10)))∧Star H w_ ([oF 3 RP.int v19_out out_19,box g35 112 #[I x_21.coef,I x_21.lit]])
 refine W_join R45 ?_ ?_
 refine W_region (fA 1 fa_112_1 rfl rfl (ldB 0 hst Try.isAgg3 rfl rfl rfl (mF sf1 rfl ?_)))
 obtain ⟨H46b,l47,s48,z49,k50⟩:=hst.borrow
 refine L_call rfl Try.call146 (ops2 rfl rfl) (i_under_c (l:=x_21.lit) (p:=p) s48 (RP.mono _ h1 l47) hx43) ?_
 rintro _ w51 ⟨rfl,hst⟩
 have hst:=k50 hst c0
 refine L_eql rfl rfl rfl (mB rfl (L_split (d:=24) (b:=(x43 == 0)) rfl (fun hc52=>?_) (fun hc52=>?_)))
 refine fA 0 fa_112_0 rfl rfl (ldB 0 hst Try.isAgg3 rfl rfl rfl (mF sf5 rfl (L_gtr rfl rfl rfl (L_pick (v:=Bo ((x43 == 0) && (decide (x_21.coef > x10)))) rfl rfl (and_t hc52 rfl) (nn ?_)))))
 have hst:=hst.get 1 rfl
 exact rj hR45 ⟨sf1,sf5,sf6,rfl,sf13,sf14,sf15,rfl,hst⟩
 refine ps rfl (ps rfl (ps rfl (ps rfl (L_pick (v:=Bo ((x43 == 0) && (decide (x_21.coef > x10)))) rfl rfl (and_f hc52) (nn ?_)))))
 have hst:=hst.get 1 rfl
 exact rj hR45 ⟨sf1,sf5,sf6,rfl,sf13,sf14,sf15,rfl,hst⟩
 intro f w_ hR
 obtain ⟨sf1,sf5,sf6,sf8,sf13,sf14,sf15,sf29,hst⟩:=rk hR45 hR
 obtain ⟨out_53,hA55,hB21⟩:=bind_some hB21
 obtain ⟨R55,hR55⟩:=exR fun f w_=>∃ v53_out : Value,f 1 = v1∧f 5 = I x10∧f 6 = v53_out∧f 13 = v0_0∧f 14 = I (c.terms.length : Int)∧f 15 = I i_18∧Star H w_ ([oF 3 RP.int v53_out out_53])
 refine W_join R55 ?_ ?_
 refine W_cond (b:=((x43 == 0) && (decide (x_21.coef > x10)))) sf29 (fun hc56=>?_) (fun hc56=>?_)
 have hA55:=(ite_t hc56).symm.trans hA55
 obtain ⟨x60,hx60,hA55⟩:=bind_some hA55
 refine W_region (mF sf6 rfl (fA 1 fa_112_1 sf8 rfl (ldB 1 hst Try.isAgg3 rfl rfl rfl (L_bs rfl (parts1 rfl) (bs_65_1_0 (I x_21.lit) rfl) hst (fun g64 w65 hst=>?_)))))
 have hst:=Star.addF (r:=RP.int) (cs:=[I x_21.lit]) (x:=x_21.lit) hst rfl
 have hst:=Star.mkRow (R:=(OR.frz RP.int)) [([I x_21.lit],x_21.lit)] [x_21.lit] 1 hst rfl rfl rfl (by decide)
 have hst:=hst.get 1 rfl
 refine L_appM (v:=v19_out) (u:=(Sl g64 1 1)) rfl et_65 rfl rfl hst hx60 (fun v67 w68 hst=>aV v67 rfl (nn ?_))
 obtain rfl:=so hA55
 exact rj hR55 ⟨v67,sf1,sf5,rfl,sf13,sf14,sf15,(Star.keepN 1 hst)⟩
 have hA55:=(ite_f hc56).symm.trans hA55
 refine W_skip ?_
 obtain rfl:=so hA55
 exact rj hR55 ⟨v19_out,sf1,sf5,sf6,sf13,sf14,sf15,(Star.keepN 1 hst)⟩
 intro f w_ hR
 obtain ⟨v53_out,sf1,sf5,sf6,sf13,sf14,sf15,hst⟩:=rk hR55 hR
 refine W_region (L_add rfl sf15 rfl (mI rfl (nn ?_)))
 obtain rfl:=so hB21
 show ∃ m,m < _∧I21 m _ _
 refine ⟨rest21.length,by simp,?_⟩
 exact ij hI21 ⟨i_18 + 1,rest21,out_53,v53_out,rfl,drop_next hd21,by simp at hl21; omega,hL21,sf1,sf5,sf6,sf13,sf14,(Eq.trans rfl (congrArg (Value.int .i64) (i64_succ (n:=c.terms.length) (by simp at hl21; omega) hlen21))),hst⟩
 rcases suf21 with _ | ⟨_,_⟩
 obtain rfl:=range_nil hL21
 refine W_exit (rj hR21 ⟨out_19,v19_out,rfl,sf6,hst⟩)
 exact absurd (of_decide_eq_false hc23) (by simp at hl21; omega)
 intro f w_ hR
 obtain ⟨out_19,v19_out,rfl,sf6,hst⟩:=rk hR21 hR
 refine sq (mF sf6 rfl (aV v19_out rfl (nn (W_ret (retG1 (v1:=v19_out) Try.results132 rfl ?_)))))
 obtain rfl:=so hF
 exact ⟨v19_out,rfl,hst⟩
theorem i_propagate_c {fu : Nat} {list : List Con} {p : List Int} {v0 : Value} {v1 : Value} {H : FH} {w : World} (hst : Star H w []) (h0 : (rS 43 (rCon 112)).rel H [v0] list) (h1 : (rS 3 RP.int).rel H [v1] p) {r : (List Int) × Int} (hF : i_propagate fu list p = some r) :
 C Try.prog 109 #[v0,v1] w fun v w'=>∃ (u1 : Value),v = .tuple #[u1,I r.2]∧Star H w' [oF 3 RP.int u1 r.1]:=by
 unfold i_propagate at hF
 refine C_enter Try.func109 rfl Try.ntmps109 rfl (sq (aV S0 rfl (aI rfl (nq ?_))))
 obtain ⟨x6,hx6,hF⟩:=bind_some hF
 refine W_region (mV v1 rfl ?_)
 obtain ⟨H9b,l10,s11,z12,k13⟩:=hst.borrow
 refine L_call rfl Try.call90 (ops1 rfl) (slices_Clone_int_c (s:=p) s11 (RP.mono _ h1 l10) hx6) ?_
 rintro r14_0 w14 ⟨_,rfl,hst⟩
 have hst:=k13 hst (co closed_int c0)
 refine aV r14_0 rfl (nq (sq (aB rfl (nn ?_))))
 obtain ⟨j19,hL19,hF⟩:=bind_some hF
 obtain ⟨R19,hR19⟩:=exR fun f w_=>∃ out_17 : List Int,∃ made_18 : Bool,j19 = .nx (out_17,made_18)∧f 6 = r14_0∧Star H w_ ([oF 3 RP.int r14_0 out_17])
 refine W_join R19 ?_ ?_
 refine W_block ?_
 obtain ⟨I19,hI19⟩:=exI fun n f w_=>∃ out_17 : List Int,∃ made_18 : Bool,whileL (i_propagate_b1 list) n (out_17,made_18) = some j19∧f 0 = v0∧f 6 = r14_0∧f 7 = Bo made_18∧Star H w_ ([oF 3 RP.int r14_0 out_17])
 refine W_loop I19 (n:=fu) ?_ ?_
 exact ij hI19 ⟨x6,true,hL19,rfl,rfl,rfl,hst⟩
 intro n19 f w_ hI
 obtain ⟨out_17,made_18,hL19,sf0,sf6,sf7,hst⟩:=ik hI19 hI
 rcases n19 with _ | n19
 exact (while_zero hL19).elim
 obtain ⟨o19,hB19,hL19⟩:=while_succ hL19
 rw [i_propagate_b1] at hB19
 refine W_seq (sq (mF sf7 rfl (nn (W_cond (b:=made_18) rfl (fun hc20=>?_) (fun hc20=>?_)))))
 have hB19:=(ite_t hc20).symm.trans hB19
 refine W_skip (W_block (sq (aB rfl (ns (mF sf0 rfl (L_len rfl Try.underlying23 rfl (slice_len h0) (mI rfl (nn ?_))))))))
 have hlen24 : List.length list≤9223372036854775807:=len_le (slice_len h0)
 obtain ⟨j24,hL24,hB19⟩:=bind_some hB19
 obtain ⟨R24,hR24⟩:=exR fun f w_=>∃ out_22 : List Int,∃ made_23 : Bool,j24 = .nx (out_22,made_23)∧f 0 = v0∧f 6 = r14_0∧f 7 = Bo made_23∧Star H w_ ([oF 3 RP.int r14_0 out_22])
 refine W_join R24 ?_ ?_
 refine W_block ?_
 obtain ⟨I24,hI24⟩:=exI fun n f w_=>∃ i_21 : Nat,∃ suf24 : List Con,∃ out_22 : List Int,∃ made_23 : Bool,n = suf24.length∧List.drop i_21 list = suf24∧i_21 + suf24.length = list.length∧rangeL i_propagate_b2 suf24 i_21 (out_22,made_23) = some j24∧f 0 = v0∧f 6 = r14_0∧f 7 = Bo made_23∧f 15 = v0∧f 16 = I (list.length : Int)∧f 17 = I i_21∧Star H w_ ([oF 3 RP.int r14_0 out_22])
 refine W_loop I24 (n:=list.length) ?_ ?_
 exact ij hI24 ⟨0,list,out_17,false,rfl,rfl,Nat.zero_add _,hL24,sf0,sf6,rfl,rfl,rfl,rfl,hst⟩
 intro n24 f w_ hI
 obtain ⟨i_21,suf24,out_22,made_23,rfl,hd24,hl24,hL24,sf0,sf6,sf7,sf15,sf16,sf17,hst⟩:=ik hI24 hI
 refine sq (L_lss rfl sf17 sf16 (nq (W_cond (b:=decide ((i_21 : Int) < (list.length : Int))) rfl (fun hc25=>?_) (fun hc25=>?_))))
 have hlt24:=of_decide_eq_true hc25
 rcases suf24 with _ | ⟨x_24,rest24⟩
 exact absurd hlt24 (by simp at hl24; omega)
 obtain ⟨o24,hB24,hL24⟩:=range_cons hL24
 rw [i_propagate_b2] at hB24
 have hix24:=drop_idx hd24
 refine W_skip (W_seq (W_block (sq (mF sf17 rfl (L_ix (r:=(rCon 112)) rfl Try.underlying23 Try.sizeOf43 sf15 h0 sf17 hix24 (fun g33 o34 cs_g33 hrk_hat35 hat35=>?_))))))
 obtain ⟨u36_0,rfl,hu36_0⟩:=rCon_iff.1 hrk_hat35
 refine L_lda (cs:=[u36_0,I x_24.bound]) rfl Try.isAgg43 Try.sizeOf43 rfl (At.sub (AtH.at hat35 hst.sub) 0 2) rfl (L_al (cs:=#[S0,I 0]) rfl Try.zeroValue43 rfl hst (fun g37 w38 hst=>aI rfl (L_staB (vs:=#[u36_0,I x_24.bound]) (cs2:=#[u36_0,I x_24.bound]) 0 rfl Try.sizeOf43 rfl rfl rfl (ones_cons (one_len (slice_len hu36_0)) (ones_cons rfl ones_nil)) hst rfl (by show 0 + 2≤2; decide) rfl (fun w39 hst=>nq (W_seq ?_)))))
 obtain ⟨x46,hx46,hB24⟩:=bind_some hB24
 refine W_region (L_lda (cs:=[u36_0,I x_24.bound]) rfl Try.isAgg43 Try.sizeOf43 rfl (At.sub0 (Blk.at (Star.blkAt 0 hst rfl)) 0 2) rfl (mF sf6 rfl ?_))
 obtain ⟨H48b,l49,s50,z51,k52⟩:=hst.borrow
 have hb53 : (rS 3 RP.int).rel H48b [r14_0] out_22:=fz_own 1 z51 rfl
 refine L_call rfl Try.call131 (ops2 rfl rfl) (i_Constraint_slack_c (c:=x_24) (p:=out_22) s50 (RP.mono _ hu36_0 l49) hb53 hx46) ?_
 rintro _ w54 ⟨rfl,hst⟩
 have hst:=k52 hst c0
 refine L_lss rfl rfl rfl (nn (W_cond (b:=decide (x46 < 0)) rfl (fun hc55=>?_) (fun hc55=>?_)))
 have hB24:=(ite_t hc55).symm.trans hB24
 refine sq (mF sf6 rfl (mI rfl (aV r14_0 rfl (aI rfl (nn (W_ret (retG2 (v1:=r14_0) (v2:=I i_21) Try.results109 rfl rfl ?_)))))))
 obtain rfl:=so hB24
 obtain rfl:=so hL24
 obtain rfl:=so hB19
 obtain rfl:=so hL19
 obtain rfl:=so hF
 have hst:=hst.get 1 rfl
 exact ⟨r14_0,rfl,(Star.keepN 1 hst)⟩
 have hB24:=(ite_f hc55).symm.trans hB24
 refine W_skip (W_seq ?_)
 obtain ⟨x62,hx62,hB24⟩:=bind_some hB24
 refine W_region (L_lda (cs:=[u36_0,I x_24.bound]) rfl Try.isAgg43 Try.sizeOf43 rfl (At.sub0 (Blk.at (Star.blkAt 0 hst rfl)) 0 2) rfl (mF sf6 rfl ?_))
 obtain ⟨H65b,l66,s67,z68,k69⟩:=hst.borrow
 have hb70 : (rS 3 RP.int).rel H65b [r14_0] out_22:=fz_own 1 z68 rfl
 refine L_call rfl Try.call132 (ops2 rfl rfl) (i_Constraint_implied_c (c:=x_24) (p:=out_22) s67 (RP.mono _ hu36_0 l66) hb70 hx62) ?_
 rintro r71_0 w71 ⟨_,rfl,hst⟩
 have hst:=k69 hst (co closed_int c0)
 refine L_len rfl Try.underlying65 rfl (Star.len 0 hst rfl) (mI rfl (nn ?_))
 have hlen76 : List.length x62≤9223372036854775807:=len_le (Star.len 0 hst rfl)
 obtain ⟨j76,hL76,hB24⟩:=bind_some hB24
 obtain ⟨R76,hR76⟩:=exR fun f w_=>∃ out_74 : List Int,∃ made_75 : Bool,j76 = .nx (out_74,made_75)∧f 0 = v0∧f 6 = r14_0∧f 7 = Bo made_75∧f 15 = v0∧f 16 = I (list.length : Int)∧f 17 = I i_21∧Star H w_ ([oF 3 RP.int r14_0 out_74])
 refine W_join R76 ?_ ?_
 refine W_block ?_
 obtain ⟨I76,hI76⟩:=exI fun n f w_=>∃ i_73 : Nat,∃ suf76 : List Int,∃ out_74 : List Int,∃ made_75 : Bool,n = suf76.length∧List.drop i_73 x62 = suf76∧i_73 + suf76.length = x62.length∧rangeL i_propagate_b3 suf76 i_73 (out_74,made_75) = some j76∧f 0 = v0∧f 6 = r14_0∧f 7 = Bo made_75∧f 15 = v0∧f 16 = I (list.length : Int)∧f 17 = I i_21∧f 30 = r71_0∧f 31 = I (x62.length : Int)∧f 32 = I i_73∧Star H w_ ([oF 3 RP.int r14_0 out_74,oF 3 RP.int r71_0 x62])
 have hst:=hst.get 2 rfl
 refine W_loop I76 (n:=x62.length) ?_ ?_
 exact ij hI76 ⟨0,x62,out_22,made_23,rfl,rfl,Nat.zero_add _,hL76,sf0,sf6,sf7,sf15,sf16,sf17,rfl,rfl,rfl,(Star.keepN 2 hst)⟩
 intro n76 f w_ hI
 obtain ⟨i_73,suf76,out_74,made_75,rfl,hd76,hl76,hL76,sf0,sf6,sf7,sf15,sf16,sf17,sf30,sf31,sf32,hst⟩:=ik hI76 hI
 refine sq (L_lss rfl sf32 sf31 (nq (W_cond (b:=decide ((i_73 : Int) < (x62.length : Int))) rfl (fun hc77=>?_) (fun hc77=>?_))))
 have hlt76:=of_decide_eq_true hc77
 rcases suf76 with _ | ⟨x_76,rest76⟩
 exact absurd hlt76 (by simp at hl76; omega)
 obtain ⟨o76,hB76,hL76⟩:=range_cons hL76
 rw [i_propagate_b3] at hB76
 have hix76:=drop_idx hd76
 refine W_skip (W_seq (W_block (sq ?_)))
 obtain ⟨g82,cap_g82,hv83,_,_⟩:=Star.row 1 hst rfl hix76
 refine L_ixO (R:=(OR.frz RP.int)) (tb:=0) 0 rfl Try.underlying65 Try.sizeOf3 sf30 hv83 (by first | rfl | simp) sf32 hix76 ?_
 obtain ⟨cs84,hr84,hat84⟩:=Star.eltF 1 hst rfl hv83 hix76
 obtain rfl : _ = [_]:=hr84
 refine L_ld rfl Try.isAgg3 rfl (At.cell hat84 (j:=0) rfl) (aI rfl (ns (aB rfl (ns (mI rfl (L_gtr rfl rfl rfl (nn ?_)))))))
 obtain ⟨out_86,hA87,hB76⟩:=bind_some hB76
 obtain ⟨R87,hR87⟩:=exR fun f w_=>f 0 = v0∧f 6 = r14_0∧f 7 = Bo true∧f 15 = v0∧f 16 = I (list.length : Int)∧f 17 = I i_21∧f 30 = r71_0∧f 31 = I (x62.length : Int)∧f 32 = I i_73∧Star H w_ ([oF 3 RP.int r14_0 out_86,oF 3 RP.int r71_0 x62])
 refine W_join R87 ?_ ?_
 refine W_cond (b:=decide (x_76 > 0)) rfl (fun hc88=>?_) (fun hc88=>?_)
 have hA87:=(ite_t hc88).symm.trans hA87
 obtain ⟨x89,hx89,hA87⟩:=bind_some hA87
 refine W_region (mF sf6 rfl (mI rfl (L_sub rfl rfl rfl ?_)))
 obtain ⟨g93,cap_g93,hv94,_,_⟩:=Star.row 0 hst rfl hx89
 refine L_ixO (R:=(OR.frz RP.int)) (tb:=0) 0 rfl Try.underlying65 Try.sizeOf3 rfl hv94 (by first | rfl | simp) rfl hx89 ?_
 have hst:=Star.addF (r:=RP.int) (cs:=[I 1]) (x:=1) hst rfl
 refine L_stE1 (u:=I 1) rfl Try.sizeOf3 rfl rfl rfl hv94 hst hx89 (fun w95 hst=>?_)
 refine nn ?_
 obtain rfl:=so hA87
 exact rj hR87 ⟨sf0,sf6,rfl,sf15,sf16,sf17,sf30,sf31,sf32,hst⟩
 have hA87:=(ite_f hc88).symm.trans hA87
 obtain ⟨x96,hx96,hA87⟩:=bind_some hA87
 refine W_region (mF sf6 rfl (mI rfl (L_neg rfl rfl (L_sub rfl rfl rfl ?_))))
 obtain ⟨g100,cap_g100,hv101,_,_⟩:=Star.row 0 hst rfl hx96
 refine L_ixO (R:=(OR.frz RP.int)) (tb:=0) 0 rfl Try.underlying65 Try.sizeOf3 rfl hv101 (by first | rfl | simp) rfl hx96 ?_
 have hst:=Star.addF (r:=RP.int) (cs:=[I (-1)]) (x:=(-1)) hst rfl
 refine L_stE1 (u:=I (-1)) rfl Try.sizeOf3 rfl rfl rfl hv101 hst hx96 (fun w102 hst=>?_)
 refine nn ?_
 obtain rfl:=so hA87
 exact rj hR87 ⟨sf0,sf6,rfl,sf15,sf16,sf17,sf30,sf31,sf32,hst⟩
 intro f w_ hR
 obtain ⟨sf0,sf6,sf7,sf15,sf16,sf17,sf30,sf31,sf32,hst⟩:=rk hR87 hR
 refine W_region (L_add rfl sf32 rfl (mI rfl (nn ?_)))
 obtain rfl:=so hB76
 show ∃ m,m < _∧I76 m _ _
 refine ⟨rest76.length,by simp,?_⟩
 exact ij hI76 ⟨i_73 + 1,rest76,out_86,true,rfl,drop_next hd76,by simp at hl76; omega,hL76,sf0,sf6,sf7,sf15,sf16,sf17,sf30,sf31,(Eq.trans rfl (congrArg (Value.int .i64) (i64_succ (n:=x62.length) (by simp at hl76; omega) hlen76))),hst⟩
 rcases suf76 with _ | ⟨_,_⟩
 obtain rfl:=range_nil hL76
 refine W_exit (rj hR76 ⟨out_74,made_75,rfl,sf0,sf6,sf7,sf15,sf16,sf17,(Star.keepN 1 hst)⟩)
 exact absurd (of_decide_eq_false hc77) (by simp at hl76; omega)
 intro f w_ hR
 obtain ⟨out_74,made_75,rfl,sf0,sf6,sf7,sf15,sf16,sf17,hst⟩:=rk hR76 hR
 refine W_region (L_add rfl sf17 rfl (mI rfl (nn ?_)))
 obtain rfl:=so hB24
 show ∃ m,m < _∧I24 m _ _
 refine ⟨rest24.length,by simp,?_⟩
 exact ij hI24 ⟨i_21 + 1,rest24,out_74,made_75,rfl,drop_next hd24,by simp at hl24; omega,hL24,sf0,sf6,sf7,sf15,sf16,(Eq.trans rfl (congrArg (Value.int .i64) (i64_succ (n:=list.length) (by simp at hl24; omega) hlen24))),hst⟩
 rcases suf24 with _ | ⟨_,_⟩
 obtain rfl:=range_nil hL24
 refine W_exit (rj hR24 ⟨out_22,made_23,rfl,sf0,sf6,sf7,hst⟩)
 exact absurd (of_decide_eq_false hc25) (by simp at hl24; omega)
 intro f w_ hR
 obtain ⟨out_22,made_23,rfl,sf0,sf6,sf7,hst⟩:=rk hR24 hR
 obtain rfl:=so hB19
 show ∃ m,m < _∧I19 m _ _
 refine ⟨n19,Nat.lt_succ_self _,?_⟩
 exact ij hI19 ⟨out_22,made_23,hL19,sf0,sf6,sf7,hst⟩
 have hB19:=(ite_f hc20).symm.trans hB19
 refine W_exit ?_
 obtain rfl:=so hB19
 obtain rfl:=so hL19
 exact rj hR19 ⟨out_17,made_18,rfl,sf6,hst⟩
 intro f w_ hR
 obtain ⟨out_17,made_18,rfl,sf6,hst⟩:=rk hR19 hR
 refine sq (mF sf6 rfl (aV r14_0 rfl (aI rfl (nn (W_ret (retG2 (v1:=r14_0) (v2:=I (-1)) Try.results109 rfl rfl ?_))))))
 obtain rfl:=so hF
 exact ⟨r14_0,rfl,hst⟩
theorem i_valuesOf_c {p : List Int} {v0 : Value} {H : FH} {w : World} (hst : Star H w []) (h0 : (rS 3 RP.int).rel H [v0] p) {r : (List Bool) × Int × Bool} (hF : i_valuesOf p = some r) :
 C Try.prog 110 #[v0] w fun v w'=>∃ (u1 : Value),v = .tuple #[u1,I r.2.1,Bo r.2.2]∧Star H w' [oF 4 RP.bool u1 r.1]:=by
 unfold i_valuesOf at hF
 refine C_enter Try.func110 rfl Try.ntmps110 rfl (sq (aV S0 rfl (aI rfl (aB rfl (ns (aV S0 rfl (nq (sq (mV v0 rfl (L_len rfl Try.underlying65 rfl (slice_len h0) (mI rfl (nn ?_))))))))))))
 have hlen4 : List.length p≤9223372036854775807:=len_le (slice_len h0)
 obtain ⟨j4,hL4,hF⟩:=bind_some hF
 obtain ⟨R4,hR4⟩:=exR fun f w_=>∃ out_2 : List Bool,∃ v2_out : Value,j4 = .nx out_2∧f 5 = v2_out∧Star H w_ ([oF 4 RP.bool v2_out out_2])
 refine W_join R4 ?_ ?_
 refine W_block ?_
 obtain ⟨I4,hI4⟩:=exI fun n f w_=>∃ i_1 : Nat,∃ suf4 : List Int,∃ out_2 : List Bool,∃ v2_out : Value,n = suf4.length∧List.drop i_1 p = suf4∧i_1 + suf4.length = p.length∧rangeL i_valuesOf_b1 suf4 i_1 out_2 = some j4∧f 5 = v2_out∧f 8 = v0∧f 9 = I (p.length : Int)∧f 10 = I i_1∧Star H w_ ([oF 4 RP.bool v2_out out_2])
 have hst:=Star.addNil (R:=(OR.frz RP.bool)) (e:=4) hst
 refine W_loop I4 (n:=p.length) ?_ ?_
 exact ij hI4 ⟨0,p,[],S0,rfl,rfl,Nat.zero_add _,hL4,rfl,rfl,rfl,rfl,hst⟩
 intro n4 f w_ hI
 obtain ⟨i_1,suf4,out_2,v2_out,rfl,hd4,hl4,hL4,sf5,sf8,sf9,sf10,hst⟩:=ik hI4 hI
 refine sq (L_lss rfl sf10 sf9 (nq (W_cond (b:=decide ((i_1 : Int) < (p.length : Int))) rfl (fun hc6=>?_) (fun hc6=>?_))))
 have hlt4:=of_decide_eq_true hc6
 rcases suf4 with _ | ⟨x_4,rest4⟩
 exact absurd hlt4 (by simp at hl4; omega)
 obtain ⟨o4,hB4,hL4⟩:=range_cons hL4
 rw [i_valuesOf_b1] at hB4
 have hix4:=drop_idx hd4
 refine W_skip (W_seq (W_block (sq (mF sf10 rfl (L_ix (r:=RP.int) rfl Try.underlying65 Try.sizeOf3 sf8 h0 sf10 hix4 (fun g11 o12 cs_g11 hrk_hat13 hat13=>?_))))))
 obtain rfl : _ = [_]:=hrk_hat13
 refine L_ld rfl Try.isAgg3 rfl (At.cell (AtH.at hat13 hst.sub) (j:=0) rfl) (aI rfl (aI rfl (nq (sq (mI rfl (L_eql rfl rfl rfl (nn (W_cond (b:=(x_4 == 0)) rfl (fun hc15=>?_) (fun hc15=>?_)))))))))
 have hB4:=(ite_t hc15).symm.trans hB4
 refine sq (mI rfl (L_add rfl rfl rfl (aV S0 rfl (aI rfl (aB rfl (nn (W_ret (retG3 (v1:=S0) (v2:=I (i64 ((i_1 : Int) + 1))) (v3:=Bo false) Try.results110 rfl rfl rfl ?_))))))))
 obtain rfl:=so hB4
 obtain rfl:=so hL4
 obtain rfl:=so hF
 have hst:=Star.addNil (R:=(OR.frz RP.bool)) (e:=4) hst
 exact ⟨S0,rfl,(Star.keepN 1 hst)⟩
 have hB4:=(ite_f hc15).symm.trans hB4
 refine W_skip ?_
 obtain ⟨x20,hx20,hB4⟩:=bind_some hB4
 refine W_region (mF sf5 rfl (mI rfl (L_gtr rfl rfl rfl (L_bs rfl (parts1 rfl) (bs_24_1_0 (Bo (decide (x_4 > 0))) rfl) hst (fun g24 w25 hst=>?_)))))
 have hst:=Star.addF (r:=RP.bool) (cs:=[Bo (decide (x_4 > 0))]) (x:=(decide (x_4 > 0))) hst rfl
 have hst:=Star.mkRow (R:=(OR.frz RP.bool)) [([Bo (decide (x_4 > 0))],decide (x_4 > 0))] [decide (x_4 > 0)] 1 hst rfl rfl rfl (by decide)
 have hst:=hst.get 1 rfl
 refine L_appM (v:=v2_out) (u:=(Sl g24 1 1)) rfl et_24 rfl rfl hst hx20 (fun v27 w28 hst=>aV v27 rfl (nn (W_region (L_add rfl sf10 rfl (mI rfl (nn ?_))))))
 obtain rfl:=so hB4
 show ∃ m,m < _∧I4 m _ _
 refine ⟨rest4.length,by simp,?_⟩
 exact ij hI4 ⟨i_1 + 1,rest4,x20,v27,rfl,drop_next hd4,by simp at hl4; omega,hL4,rfl,sf8,sf9,(Eq.trans rfl (congrArg (Value.int .i64) (i64_succ (n:=p.length) (by simp at hl4; omega) hlen4))),hst⟩
 rcases suf4 with _ | ⟨_,_⟩
 obtain rfl:=range_nil hL4
 refine W_exit (rj hR4 ⟨out_2,v2_out,rfl,sf5,hst⟩)
 exact absurd (of_decide_eq_false hc6) (by simp at hl4; omega)
 intro f w_ hR
 obtain ⟨out_2,v2_out,rfl,sf5,hst⟩:=rk hR4 hR
 refine sq (mF sf5 rfl (aV v2_out rfl (aI rfl (aB rfl (nn (W_ret (retG3 (v1:=v2_out) (v2:=I 0) (v3:=Bo true) Try.results110 rfl rfl rfl ?_)))))))
 obtain rfl:=so hF
 exact ⟨v2_out,rfl,hst⟩
theorem slices_Index_int_c {s : List Int} {v_ : Int} {v0 : Value} {H : FH} {w : World} (hst : Star H w []) (h0 : (rS 3 RP.int).rel H [v0] s) {r : Int} (hF : slices_Index_int s v_ = some r) :
 C Try.prog 122 #[v0,I v_] w fun v w'=>v = I r∧Star H w' []:=by
 unfold slices_Index_int at hF
 refine C_enter Try.func122 rfl Try.ntmps122 rfl (sq (aI rfl (nq (sq (mV v0 rfl (L_len rfl Try.underlying65 rfl (slice_len h0) (mI rfl (nn ?_))))))))
 have hlen2 : List.length s≤9223372036854775807:=len_le (slice_len h0)
 obtain ⟨j2,hL2,hF⟩:=bind_some hF
 obtain ⟨R2,hR2⟩:=exR fun f w_=>j2 = .nx ()∧Star H w_ ([])
 refine W_join R2 ?_ ?_
 refine W_block ?_
 obtain ⟨I2,hI2⟩:=exI fun n f w_=>∃ i_1 : Nat,∃ suf2 : List Int,n = suf2.length∧List.drop i_1 s = suf2∧i_1 + suf2.length = s.length∧rangeL (slices_Index_int_b1 v_) suf2 i_1 () = some j2∧f 0 = v0∧f 1 = I v_∧f 7 = I (s.length : Int)∧f 8 = I i_1∧Star H w_ ([])
 refine W_loop I2 (n:=s.length) ?_ ?_
 exact ij hI2 ⟨0,s,rfl,rfl,Nat.zero_add _,hL2,rfl,rfl,rfl,rfl,hst⟩
 intro n2 f w_ hI
 obtain ⟨i_1,suf2,rfl,hd2,hl2,hL2,sf0,sf1,sf7,sf8,hst⟩:=ik hI2 hI
 refine sq (L_lss rfl sf8 sf7 (nq (W_cond (b:=decide ((i_1 : Int) < (s.length : Int))) rfl (fun hc3=>?_) (fun hc3=>?_))))
 have hlt2:=of_decide_eq_true hc3
 rcases suf2 with _ | ⟨x_2,rest2⟩
 exact absurd hlt2 (by simp at hl2; omega)
 obtain ⟨o2,hB2,hL2⟩:=range_cons hL2
 rw [slices_Index_int_b1] at hB2
 have hix2:=drop_idx hd2
 refine W_skip (W_seq (W_block (sq (mF sf8 rfl (aI rfl (ns (mF sf1 rfl (mF sf0 rfl (mI rfl (L_ix (r:=RP.int) rfl Try.underlying65 Try.sizeOf3 rfl h0 rfl hix2 (fun g8 o9 cs_g8 hrk_hat10 hat10=>?_)))))))))))
 obtain rfl : _ = [_]:=hrk_hat10
 refine L_ld rfl Try.isAgg3 rfl (At.cell (AtH.at hat10 hst.sub) (j:=0) rfl) (L_eql rfl rfl rfl (nn (W_cond (b:=(v_ == x_2)) rfl (fun hc12=>?_) (fun hc12=>?_))))
 have hB2:=(ite_t hc12).symm.trans hB2
 refine sq (mI rfl (aI rfl (nn (W_ret (retG1 (v1:=I i_1) Try.results122 rfl ?_)))))
 obtain rfl:=so hB2
 obtain rfl:=so hL2
 obtain rfl:=so hF
 exact ⟨rfl,hst⟩
 have hB2:=(ite_f hc12).symm.trans hB2
 refine W_skip (W_region (L_add rfl sf8 rfl (mI rfl (nn ?_))))
 obtain rfl:=so hB2
 show ∃ m,m < _∧I2 m _ _
 refine ⟨rest2.length,by simp,?_⟩
 exact ij hI2 ⟨i_1 + 1,rest2,rfl,drop_next hd2,by simp at hl2; omega,hL2,sf0,sf1,sf7,(Eq.trans rfl (congrArg (Value.int .i64) (i64_succ (n:=s.length) (by simp at hl2; omega) hlen2))),hst⟩
 rcases suf2 with _ | ⟨_,_⟩
 obtain rfl:=range_nil hL2
 refine W_exit (rj hR2 ⟨rfl,hst⟩)
 exact absurd (of_decide_eq_false hc3) (by simp at hl2; omega)
 intro f w_ hR
 obtain ⟨rfl,hst⟩:=rk hR2 hR
 refine sq (aI rfl (nn (W_ret (retG1 (v1:=I (-1)) Try.results122 rfl ?_))))
 obtain rfl:=so hF
 exact ⟨rfl,hst⟩
theorem slices_Contains_int_c {s : List Int} {v_ : Int} {v0 : Value} {H : FH} {w : World} (hst : Star H w []) (h0 : (rS 3 RP.int).rel H [v0] s) {r : Bool} (hF : slices_Contains_int s v_ = some r) :
 C Try.prog 89 #[v0,I v_] w fun v w'=>v = Bo r∧Star H w' []:=by
 unfold slices_Contains_int at hF
 refine C_enter Try.func89 rfl Try.ntmps89 rfl (sq (aB rfl (nq ?_)))
 obtain ⟨x6,hx6,hF⟩:=bind_some hF
 refine W_region (mV v0 rfl (mI rfl ?_))
 obtain ⟨H8b,l9,s10,z11,k12⟩:=hst.borrow
 refine L_call rfl Try.call122 (ops2 rfl rfl) (slices_Index_int_c (s:=s) (v_:=v_) s10 (RP.mono _ h0 l9) hx6) ?_
 rintro _ w13 ⟨rfl,hst⟩
 have hst:=k12 hst c0
 refine L_geq rfl rfl rfl (aB rfl (nn (W_ret (retG1 (v1:=Bo (decide (x6 ≥ 0))) Try.results89 rfl ?_))))
 obtain rfl:=so hF
 exact ⟨rfl,hst⟩
theorem slices_insertionSortCmpFunc_int_c {fu : Nat} {data : List Int} {a : Int} {b : Int} {cmp : (Int→Int→Option Int)} {v0 : Value} {v3 : Value} {H : FH} {w : World} (hst : Star H w [oF 3 RP.int v0 data]) (h3 : Fun2 Try.prog RP.int RP.int false (Value.int .i64) cmp v3 H) {r : List Int} (hF : slices_insertionSortCmpFunc_int fu data a b cmp = some r) :
 C Try.prog 135 #[v0,I a,I b,v3] w fun v w'=>v = .tuple #[]∧Star H w' [oF 3 RP.int v0 r]:=by
 unfold slices_insertionSortCmpFunc_int at hF
 obtain ⟨fid_3,caps_3,rfl,hcall_3,hc_3⟩:=h3
 refine C_enter Try.func135 rfl Try.ntmps135 rfl (sq (mI rfl (L_add rfl rfl rfl (aI rfl (nn ?_)))))
 obtain ⟨j6,hL6,hF⟩:=bind_some hF
 obtain ⟨R6,hR6⟩:=exR fun f w_=>∃ data_2 : List Int,∃ i_3 : Int,∃ H4 : FH,j6 = .nx (data_2,i_3)∧Le H H4∧Star H4 w_ ([oF 3 RP.int v0 data_2])
 refine W_join R6 ?_ ?_
 refine W_block ?_
 obtain ⟨I6,hI6⟩:=exI fun n f w_=>∃ data_2 : List Int,∃ i_3 : Int,∃ H4 : FH,whileL (slices_insertionSortCmpFunc_int_b1 fu a b cmp) n (data_2,i_3) = some j6∧Le H H4∧f 0 = v0∧f 1 = I a∧f 2 = I b∧f 3 = .func (.func fid_3) #[] caps_3∧f 8 = I i_3∧Star H4 w_ ([oF 3 RP.int v0 data_2])
 refine W_loop I6 (n:=fu) ?_ ?_
 exact ij hI6 ⟨data,i64 (a + 1),H,hL6,(Le.refl _),rfl,rfl,rfl,rfl,rfl,hst⟩
 intro n6 f w_ hI
 obtain ⟨data_2,i_3,H4,hL6,l5,sf0,sf1,sf2,sf3,sf8,hst⟩:=ik hI6 hI
 rcases n6 with _ | n6
 exact (while_zero hL6).elim
 obtain ⟨o6,hB6,hL6⟩:=while_succ hL6
 rw [slices_insertionSortCmpFunc_int_b1] at hB6
 refine W_seq (sq (mF sf8 rfl (mF sf2 rfl (L_lss rfl rfl rfl (nn (W_cond (b:=decide (i_3 < b)) rfl (fun hc7=>?_) (fun hc7=>?_)))))))
 have hB6:=(ite_t hc7).symm.trans hB6
 refine W_skip (W_seq (W_block (sq (mF sf8 rfl (aI rfl (nn ?_))))))
 obtain ⟨j13,hL13,hB6⟩:=bind_some hB6
 obtain ⟨R13,hR13⟩:=exR fun f w_=>∃ data_9 : List Int,∃ j_10 : Int,∃ H11 : FH,j13 = .nx (data_9,j_10)∧Le H4 H11∧f 0 = v0∧f 1 = I a∧f 2 = I b∧f 3 = .func (.func fid_3) #[] caps_3∧f 8 = I i_3∧Star H11 w_ ([oF 3 RP.int v0 data_9])
 refine W_join R13 ?_ ?_
 refine W_block ?_
 obtain ⟨I13,hI13⟩:=exI fun n f w_=>∃ data_9 : List Int,∃ j_10 : Int,∃ H11 : FH,whileL (slices_insertionSortCmpFunc_int_b2 a cmp) n (data_9,j_10) = some j13∧Le H4 H11∧f 0 = v0∧f 1 = I a∧f 2 = I b∧f 3 = .func (.func fid_3) #[] caps_3∧f 8 = I i_3∧f 9 = I j_10∧Star H11 w_ ([oF 3 RP.int v0 data_9])
 refine W_loop I13 (n:=fu) ?_ ?_
 exact ij hI13 ⟨data_2,i_3,H4,hL13,(Le.refl _),sf0,sf1,sf2,sf3,sf8,rfl,hst⟩
 intro n13 f w_ hI
 obtain ⟨data_9,j_10,H11,hL13,l12,sf0,sf1,sf2,sf3,sf8,sf9,hst⟩:=ik hI13 hI
 rcases n13 with _ | n13
 exact (while_zero hL13).elim
 obtain ⟨o13,hB13,hL13⟩:=while_succ hL13
 rw [slices_insertionSortCmpFunc_int_b2] at hB13
 refine W_seq (W_seq ?_)
 obtain ⟨b29,hb29,hB13⟩:=bind_some hB13
 obtain ⟨R33,hR33⟩:=exR fun f w_=>∃ H31 : FH,Le H11 H31∧f 0 = v0∧f 1 = I a∧f 2 = I b∧f 3 = .func (.func fid_3) #[] caps_3∧f 8 = I i_3∧f 9 = I j_10∧f 34 = Bo b29∧Star H31 w_ ([oF 3 RP.int v0 data_9])
 refine W_join R33 ?_ ?_
 rcases Bool.eq_false_or_eq_true (decide (j_10 > a)) with hc34 | hc34
 rw [ite_t hc34] at hb29
 obtain ⟨x14,hx14,hb29⟩:=bind_some hb29
 obtain ⟨x19,hx19,hb29⟩:=bind_some hb29
 obtain ⟨x22,hx22,hb29⟩:=bind_some hb29
 obtain ⟨g35,cap_g35,hv36,_,_⟩:=Star.row 0 hst rfl hx14
 refine W_drawS 14 [isV (I j_10),isV (I a),isV (Bo (decide (j_10 > a))),isV (Bo (decide (j_10 > a))),isV (.func (.func fid_3) #[] caps_3),isV (v0),isV (I j_10),isV (.pointer (some ⟨g35,Int.toNat j_10 * 1,none⟩)),isV (I x14),isV (v0),isV (I j_10),isV (I (i64 (j_10 - 1))),isV (.pointer (some ⟨g35,Int.toNat (i64 (j_10 - 1)) * 1,none⟩)),isV (I x19)] [oF 3 RP.int v0 data_9] [] ([]) [([],[]),([],[]),([],[]),([],[]),([],[]),([],[]),([],[]),([],[]),([],[]),([],[]),([],[]),([],[]),([],[]),([],[])] (S:=[]) Try_mix (by kernel_rfl) rfl (by kernel_rfl) (amF_cons (mono_V _) (amF_cons (mono_V _) (amF_cons (mono_V _) (amF_cons (mono_V _) (amF_cons (mono_V _) (amF_cons (mono_V _) (amF_cons (mono_V _) (amF_cons (mono_V _) (amF_cons (mono_V _) (amF_cons (mono_V _) (amF_cons (mono_V _) (amF_cons (mono_V _) (amF_cons (mono_V _) (amF_cons (mono_V _) amF_nil)))))))))))))) hst ?_ (fun f w_ H30 hS30 hE30 hT30 hst=>?_)
 refine opsS_cons (fun f w_ _ _ s _ _ hst=>mF ((s 9 rfl).trans sf9) rfl (nO rfl rfl hst)) (opsS_cons (fun f w_ _ _ s _ _ hst=>mF ((s 1 rfl).trans sf1) rfl (nO rfl rfl hst)) (opsS_cons (fun f w_ _ _ _ _ p hst=>L_gtr rfl (p 0 18 rfl rfl) (p 1 19 rfl rfl) (nO rfl rfl hst)) (opsS_cons (fun f w_ _ _ _ _ p hst=>mF (p 2 20 rfl rfl) rfl (nO rfl rfl hst)) (opsS_cons (fun f w_ _ _ s _ p hst=>L_mv (v:=.func (.func fid_3) #[] caps_3) (g_yes rfl (Eq.trans (p 3 21 rfl rfl) (congrArg Value.bool hc34)) rfl) ((s 3 rfl).trans sf3) (nO rfl rfl hst)) (opsS_cons (fun f w_ _ _ s _ p hst=>L_mv (v:=v0) (g_yes rfl (Eq.trans (p 3 21 rfl rfl) (congrArg Value.bool hc34)) rfl) ((s 0 rfl).trans sf0) (nO rfl rfl hst)) (opsS_cons (fun f w_ _ _ s _ p hst=>L_mv (v:=I j_10) (g_yes rfl (Eq.trans (p 3 21 rfl rfl) (congrArg Value.bool hc34)) rfl) ((s 9 rfl).trans sf9) (nO rfl rfl hst)) (opsS_cons (fun f w_ _ _ _ _ p hst=>L_ixO (R:=(OR.frz RP.int)) (tb:=0) 0 (g_yes rfl (Eq.trans (p 3 21 rfl rfl) (congrArg Value.bool hc34)) rfl) Try.underlying65 Try.sizeOf3 (p 5 23 rfl rfl) hv36 (by first | rfl | simp) (p 6 24 rfl rfl) hx14 (nO rfl rfl hst)) (opsS_cons ?_ ?_))))))))
 intro f w_ H30 X30 hS30 hE30 hP30 hst
 obtain ⟨cs41,hr41,hat41⟩:=Star.eltF 0 hst rfl hv36 hx14
 obtain rfl : _ = [_]:=hr41
 refine L_ld (v:=I x14) (g_yes rfl (Eq.trans (hP30 3 21 rfl rfl) (congrArg Value.bool hc34)) rfl) Try.isAgg3 (hP30 7 25 rfl rfl) (At.cell hat41 (j:=0) rfl) (L_nil ⟨rfl,_,_,rfl,Le.refl _,fun _ _=>rfl,hst⟩)
 refine opsS_cons (fun f w_ _ _ s _ p hst=>L_mv (v:=v0) (g_yes rfl (Eq.trans (p 3 21 rfl rfl) (congrArg Value.bool hc34)) rfl) ((s 0 rfl).trans sf0) (nO rfl rfl hst)) (opsS_cons (fun f w_ _ _ s _ p hst=>L_mv (v:=I j_10) (g_yes rfl (Eq.trans (p 3 21 rfl rfl) (congrArg Value.bool hc34)) rfl) ((s 9 rfl).trans sf9) (nO rfl rfl hst)) (opsS_cons (fun f w_ _ _ _ _ p hst=>L_sub (g_yes rfl (Eq.trans (p 3 21 rfl rfl) (congrArg Value.bool hc34)) rfl) (p 10 28 rfl rfl) rfl (nO rfl rfl hst)) (opsS_cons (fun f w_ _ _ _ _ p hst=>L_ixO (R:=(OR.frz RP.int)) (tb:=0) 0 (g_yes rfl (Eq.trans (p 3 21 rfl rfl) (congrArg Value.bool hc34)) rfl) Try.underlying65 Try.sizeOf3 (p 9 27 rfl rfl) hv36 (by first | rfl | simp) (p 11 29 rfl rfl) hx19 (nO rfl rfl hst)) (opsS_cons ?_ ?_))))
 intro f w_ H30 X30 hS30 hE30 hP30 hst
 obtain ⟨cs43,hr43,hat43⟩:=Star.eltF 0 hst rfl hv36 hx19
 obtain rfl : _ = [_]:=hr43
 refine L_ld (v:=I x19) (g_yes rfl (Eq.trans (hP30 3 21 rfl rfl) (congrArg Value.bool hc34)) rfl) Try.isAgg3 (hP30 12 30 rfl rfl) (At.cell hat43 (j:=0) rfl) (L_nil ⟨rfl,_,_,rfl,Le.refl _,fun _ _=>rfl,hst⟩)
 exact opsS_nil
 obtain ⟨H45b,l46,s47,z48,k49⟩:=hst.borrow
 refine L_callv (args:=#[I x14,I x19]) (g_yes rfl (Eq.trans (hT30 3 21 rfl rfl) (congrArg Value.bool hc34)) rfl) hcall_3 (hT30 4 22 rfl rfl) (ops2 (hT30 8 26 rfl rfl) (hT30 13 31 rfl rfl)) (hc_3 _ _ (Le.trans (Le.trans (Le.trans l5 l12) hE30) l46) s47 [I x14] [I x19] _ _ _ _ rfl rfl hx22 (args_app rfl)) ?_
 rintro _ w50 ⟨rfl,hst⟩
 have hst:=k49 hst c0
 refine L_lss (g_yes rfl (Eq.trans (hT30 3 21 rfl rfl) (congrArg Value.bool hc34)) rfl) rfl rfl (L_pick (v:=Bo b29) rfl (Eq.trans (hT30 3 21 rfl rfl) (congrArg Value.bool hc34)) (congrArg Value.bool (so hb29)) (nn (rj hR33 ⟨H30,hE30,((hS30 0 rfl).trans sf0),((hS30 1 rfl).trans sf1),((hS30 2 rfl).trans sf2),((hS30 3 rfl).trans sf3),((hS30 8 rfl).trans sf8),((hS30 9 rfl).trans sf9),rfl,hst⟩)))
 rw [ite_f hc34] at hb29
 refine W_drawS 14 [isV (I j_10),isV (I a),isV (Bo (decide (j_10 > a))),isV (Bo (decide (j_10 > a))),isV (undef),isV (undef),isV (undef),isV (undef),isV (undef),isV (undef),isV (undef),isV (undef),isV (undef),isV (undef)] [oF 3 RP.int v0 data_9] [] ([]) [([],[]),([],[]),([],[]),([],[]),([],[]),([],[]),([],[]),([],[]),([],[]),([],[]),([],[]),([],[]),([],[]),([],[])] (S:=[]) Try_mix (by kernel_rfl) rfl (by kernel_rfl) (amF_cons (mono_V _) (amF_cons (mono_V _) (amF_cons (mono_V _) (amF_cons (mono_V _) (amF_cons (mono_V _) (amF_cons (mono_V _) (amF_cons (mono_V _) (amF_cons (mono_V _) (amF_cons (mono_V _) (amF_cons (mono_V _) (amF_cons (mono_V _) (amF_cons (mono_V _) (amF_cons (mono_V _) (amF_cons (mono_V _) amF_nil)))))))))))))) hst ?_ (fun f w_ H30 hS30 hE30 hT30 hst=>?_)
 refine opsS_cons (fun f w_ _ _ s _ _ hst=>mF ((s 9 rfl).trans sf9) rfl (nO rfl rfl hst)) (opsS_cons (fun f w_ _ _ s _ _ hst=>mF ((s 1 rfl).trans sf1) rfl (nO rfl rfl hst)) (opsS_cons (fun f w_ _ _ _ _ p hst=>L_gtr rfl (p 0 18 rfl rfl) (p 1 19 rfl rfl) (nO rfl rfl hst)) (opsS_cons (fun f w_ _ _ _ _ p hst=>mF (p 2 20 rfl rfl) rfl (nO rfl rfl hst)) (oP (fun _ _ p=>gN (p 3 21 rfl rfl) hc34 rfl) (fun _=>rfl) (oP (fun _ _ p=>gN (p 3 21 rfl rfl) hc34 rfl) (fun _=>rfl) (oP (fun _ _ p=>gN (p 3 21 rfl rfl) hc34 rfl) (fun _=>rfl) (oP (fun _ _ p=>gN (p 3 21 rfl rfl) hc34 rfl) (fun _=>rfl) (oP (fun _ _ p=>gN (p 3 21 rfl rfl) hc34 rfl) (fun _=>rfl) (oP (fun _ _ p=>gN (p 3 21 rfl rfl) hc34 rfl) (fun _=>rfl) (oP (fun _ _ p=>gN (p 3 21 rfl rfl) hc34 rfl) (fun _=>rfl) (oP (fun _ _ p=>gN (p 3 21 rfl rfl) hc34 rfl) (fun _=>rfl) (oP (fun _ _ p=>gN (p 3 21 rfl rfl) hc34 rfl) (fun _=>rfl) (oP (fun _ _ p=>gN (p 3 21 rfl rfl) hc34 rfl) (fun _=>rfl) (opsS_nil))))))))))))))
 refine ps (g_no rfl (Eq.trans (hT30 3 21 rfl rfl) (congrArg Value.bool hc34)) rfl rfl) (ps (g_no rfl (Eq.trans (hT30 3 21 rfl rfl) (congrArg Value.bool hc34)) rfl rfl) (L_pick (v:=Bo b29) rfl (Eq.trans (hT30 3 21 rfl rfl) (congrArg Value.bool hc34)) (congrArg Value.bool (so hb29)) (nn (rj hR33 ⟨H30,hE30,((hS30 0 rfl).trans sf0),((hS30 1 rfl).trans sf1),((hS30 2 rfl).trans sf2),((hS30 3 rfl).trans sf3),((hS30 8 rfl).trans sf8),((hS30 9 rfl).trans sf9),rfl,hst⟩))))
 intro f w_ hR
 obtain ⟨H31,l32,sf0,sf1,sf2,sf3,sf8,sf9,sf34,hst⟩:=rk hR33 hR
 refine W_cond (b:=b29) sf34 (fun hc51=>?_) (fun hc51=>?_)
 have hB13:=(ite_t hc51).symm.trans hB13
 refine W_skip (W_seq (W_block ?_))
 obtain ⟨x52,hx52,hB13⟩:=bind_some hB13
 obtain ⟨x57,hx57,hB13⟩:=bind_some hB13
 obtain ⟨x61,hx61,hB13⟩:=bind_some hB13
 obtain ⟨g64,cap_g64,hv65,_,_⟩:=Star.row 0 hst rfl hx52
 refine W_drawS 16 [isV (v0),isV (I j_10),isV (v0),isV (I j_10),isV (I (i64 (j_10 - 1))),isV (v0),isV (I j_10),isV (I (i64 (j_10 - 1))),isV (.pointer (some ⟨g64,Int.toNat (i64 (j_10 - 1)) * 1,none⟩)),isV (I x52),isV (v0),isV (I j_10),isV (.pointer (some ⟨g64,Int.toNat j_10 * 1,none⟩)),isV (I x57),isV (.pointer (some ⟨g64,Int.toNat j_10 * 1,none⟩)),anyF] [] [.base (oF 3 RP.int v0 data_9) (some 15),.madeN 15 [] (fun vs_=>oF 3 RP.int v0 (data_9.set (Int.toNat j_10) x52)) none] ([]) [([],[]),([],[]),([],[]),([],[]),([],[]),([],[]),([],[]),([],[]),([0],[0]),([0],[0]),([],[]),([],[]),([0],[0]),([0],[0]),([0],[0]),([0],[1])] (S:=[(none,[],some 15),(some 15,[],none)]) Try_mix (by kernel_rfl) rfl (by kernel_rfl) (amF_cons (mono_V _) (amF_cons (mono_V _) (amF_cons (mono_V _) (amF_cons (mono_V _) (amF_cons (mono_V _) (amF_cons (mono_V _) (amF_cons (mono_V _) (amF_cons (mono_V _) (amF_cons (mono_V _) (amF_cons (mono_V _) (amF_cons (mono_V _) (amF_cons (mono_V _) (amF_cons (mono_V _) (amF_cons (mono_V _) (amF_cons (mono_V _) (amF_cons (mono_any) amF_nil)))))))))))))))) hst ?_ (fun f w_ H63 hS63 hE63 hT63 hst=>?_)
 refine opsS_cons (fun f w_ _ _ s _ _ hst=>mF ((s 0 rfl).trans sf0) rfl (nO rfl rfl hst)) (opsS_cons (fun f w_ _ _ s _ _ hst=>mF ((s 9 rfl).trans sf9) rfl (nO rfl rfl hst)) (opsS_cons (fun f w_ _ _ s _ _ hst=>mF ((s 0 rfl).trans sf0) rfl (nO rfl rfl hst)) (opsS_cons (fun f w_ _ _ s _ _ hst=>mF ((s 9 rfl).trans sf9) rfl (nO rfl rfl hst)) (opsS_cons (fun f w_ _ _ _ _ p hst=>L_sub rfl (p 3 40 rfl rfl) rfl (nO rfl rfl hst)) (opsS_cons (fun f w_ _ _ s _ _ hst=>mF ((s 0 rfl).trans sf0) rfl (nO rfl rfl hst)) (opsS_cons (fun f w_ _ _ s _ _ hst=>mF ((s 9 rfl).trans sf9) rfl (nO rfl rfl hst)) (opsS_cons (fun f w_ _ _ _ _ p hst=>L_sub rfl (p 6 43 rfl rfl) rfl (nO rfl rfl hst)) (opsS_cons ?_ ?_))))))))
 intro f w_ H63 X63 hS63 hE63 hP63 hst
 have hst : Star H63 w_ (oF 3 RP.int v0 data_9 :: X63):=hst
 refine L_ixO (R:=(OR.frz RP.int)) (tb:=0) 0 rfl Try.underlying65 Try.sizeOf3 (hP63 5 42 rfl rfl) hv65 (by first | rfl | simp) (hP63 7 44 rfl rfl) hx52 (L_nil ⟨rfl,_,_,rfl,Le.refl _,fun _ _=>rfl,hst⟩)
 refine opsS_cons ?_ ?_
 intro f w_ H63 X63 hS63 hE63 hP63 hst
 have hst : Star H63 w_ (oF 3 RP.int v0 data_9 :: X63):=hst
 obtain ⟨cs71,hr71,hat71⟩:=Star.eltF 0 hst rfl hv65 hx52
 obtain rfl : _ = [_]:=hr71
 refine L_ld rfl Try.isAgg3 (hP63 8 45 rfl rfl) (At.cell hat71 (j:=0) rfl) (L_nil ⟨rfl,_,_,rfl,Le.refl _,fun _ _=>rfl,hst⟩)
 refine opsS_cons (fun f w_ _ _ s _ _ hst=>mF ((s 0 rfl).trans sf0) rfl (nO rfl rfl hst)) (opsS_cons (fun f w_ _ _ s _ _ hst=>mF ((s 9 rfl).trans sf9) rfl (nO rfl rfl hst)) (opsS_cons ?_ ?_))
 intro f w_ H63 X63 hS63 hE63 hP63 hst
 have hst : Star H63 w_ (oF 3 RP.int v0 data_9 :: X63):=hst
 refine L_ixO (R:=(OR.frz RP.int)) (tb:=0) 0 rfl Try.underlying65 Try.sizeOf3 (hP63 10 47 rfl rfl) hv65 (by first | rfl | simp) (hP63 11 48 rfl rfl) hx57 (L_nil ⟨rfl,_,_,rfl,Le.refl _,fun _ _=>rfl,hst⟩)
 refine opsS_cons ?_ ?_
 intro f w_ H63 X63 hS63 hE63 hP63 hst
 have hst : Star H63 w_ (oF 3 RP.int v0 data_9 :: X63):=hst
 obtain ⟨cs73,hr73,hat73⟩:=Star.eltF 0 hst rfl hv65 hx57
 obtain rfl : _ = [_]:=hr73
 refine L_ld rfl Try.isAgg3 (hP63 12 49 rfl rfl) (At.cell hat73 (j:=0) rfl) (L_nil ⟨rfl,_,_,rfl,Le.refl _,fun _ _=>rfl,hst⟩)
 refine opsS_cons ?_ ?_
 intro f w_ H63 X63 hS63 hE63 hP63 hst
 have hst : Star H63 w_ (oF 3 RP.int v0 data_9 :: X63):=hst
 refine L_ixO (R:=(OR.frz RP.int)) (tb:=0) 0 rfl Try.underlying65 Try.sizeOf3 (hP63 0 37 rfl rfl) hv65 (by first | rfl | simp) (hP63 1 38 rfl rfl) hx57 (L_nil ⟨rfl,_,_,rfl,Le.refl _,fun _ _=>rfl,hst⟩)
 refine opsS_cons ?_ ?_
 intro f w_ H63 X63 hS63 hE63 hP63 hst
 have hst : Star H63 w_ (oF 3 RP.int v0 data_9 :: X63):=hst
 have hst:=Star.addF (r:=RP.int) (cs:=[I x52]) (x:=x52) hst rfl
 refine L_stE1 (u:=I x52) rfl Try.sizeOf3 rfl (hP63 14 51 rfl rfl) (hP63 9 46 rfl rfl) hv65 hst hx57 (fun w75 hst=>?_)
 exact L_nil ⟨rfl,Bo false,_,rfl,Le.refl _,(fun _ h=>nomatch h),hst⟩
 exact opsS_nil
 have hst : Star H63 w_ ([oF 3 RP.int v0 (data_9.set (Int.toNat j_10) x52)]):=hst
 refine L_ixO (R:=(OR.frz RP.int)) (tb:=0) 0 rfl Try.underlying65 Try.sizeOf3 (hT63 2 39 rfl rfl) hv65 (by first | rfl | simp) (hT63 4 41 rfl rfl) hx61 ?_
 have hst:=Star.addF (r:=RP.int) (cs:=[I x57]) (x:=x57) hst rfl
 refine L_stE1 (u:=I x57) rfl Try.sizeOf3 rfl rfl (hT63 13 50 rfl rfl) hv65 hst hx61 (fun w76 hst=>?_)
 refine nn (W_region (mF ((hS63 9 rfl).trans sf9) rfl (L_sub rfl rfl rfl (aI rfl (nn ?_)))))
 obtain rfl:=so hB13
 show ∃ m,m < _∧I13 m _ _
 refine ⟨n13,Nat.lt_succ_self _,?_⟩
 exact ij hI13 ⟨((data_9.set (Int.toNat j_10) x52).set (Int.toNat (i64 (j_10 - 1))) x57),i64 (j_10 - 1),H63,hL13,(Le.trans (Le.trans l12 l32) hE63),((hS63 0 rfl).trans sf0),((hS63 1 rfl).trans sf1),((hS63 2 rfl).trans sf2),((hS63 3 rfl).trans sf3),((hS63 8 rfl).trans sf8),rfl,hst⟩
 have hB13:=(ite_f hc51).symm.trans hB13
 refine W_exit ?_
 obtain rfl:=so hB13
 obtain rfl:=so hL13
 exact rj hR13 ⟨data_9,j_10,H31,rfl,(Le.trans l12 l32),sf0,sf1,sf2,sf3,sf8,hst⟩
 intro f w_ hR
 obtain ⟨data_9,j_10,H11,rfl,l12,sf0,sf1,sf2,sf3,sf8,hst⟩:=rk hR13 hR
 refine W_region (mF sf8 rfl (L_add rfl rfl rfl (aI rfl (nn ?_))))
 obtain rfl:=so hB6
 show ∃ m,m < _∧I6 m _ _
 refine ⟨n6,Nat.lt_succ_self _,?_⟩
 exact ij hI6 ⟨data_9,i64 (i_3 + 1),H11,hL6,(Le.trans l5 l12),sf0,sf1,sf2,sf3,rfl,hst⟩
 have hB6:=(ite_f hc7).symm.trans hB6
 refine W_exit ?_
 obtain rfl:=so hB6
 obtain rfl:=so hL6
 exact rj hR6 ⟨data_2,i_3,H4,rfl,l5,hst⟩
 intro f w_ hR
 obtain ⟨data_2,i_3,H4,rfl,l5,hst⟩:=rk hR6 hR
 refine ret0 Try.results135 ?_
 obtain rfl:=so hF
 exact ⟨rfl,(Star.down hst l5 (co closed_int c0))⟩
theorem bits_Len_c {x_ : Int} {H : FH} {w : World} (hst : Star H w []) {r : Int} (hF : bits_Len x_ = some r) :
 C Try.prog 124 #[.int .u64 x_] w fun v w'=>v = I r∧Star H w' []:=by
 obtain ⟨h0,h1,rfl⟩:=bits_Len_some hF
 refine Calls.mono (Go.Proofs.Try.bits_Len x_ w h0 h1) ?_
 rintro e w' ⟨rfl,rfl⟩
 exact ⟨_,rfl,rfl,hst⟩
theorem slices_nextPowerOfTwo_c {length : Int} {H : FH} {w : World} (hst : Star H w []) {r : Int} (hF : slices_nextPowerOfTwo length = some r) :
 C Try.prog 149 #[I length] w fun v w'=>v = .int .u64 r∧Star H w' []:=by
 unfold slices_nextPowerOfTwo at hF
 refine C_enter Try.func149 rfl Try.ntmps149 rfl (sq (aV (.int .u64 0) rfl (nq ?_)))
 obtain ⟨x6,hx6,hF⟩:=bind_some hF
 obtain ⟨q8,hq8,hF⟩:=bind_some hF
 refine W_region (mI rfl (L_cv (n:=length) rfl rfl ⟨_,Try.underlying3⟩ Try.underlying140 ?_))
 obtain ⟨H9b,l10,s11,z12,k13⟩:=hst.borrow
 refine L_call rfl Try.call124 (ops1 rfl) (bits_Len_c (x_:=IntKind.u64.wrap length) s11 hx6) ?_
 rintro _ w14 ⟨rfl,hst⟩
 have hst:=k13 hst c0
 refine L_shl (m:=1) (n:=x6) rfl rfl rfl (Int.not_lt.1 fun he=>by rw [if_pos he] at hq8; cases hq8) (aV (.int .u64 (IntKind.u64.wrap (1 * 2 ^ (min (Int.toNat x6) (IntKind.bits .u64))))) rfl (nn (W_ret (retG1 (v1:=.int .u64 (IntKind.u64.wrap (1 * 2 ^ (min (Int.toNat x6) (IntKind.bits .u64))))) Try.results149 rfl ?_))))
 obtain rfl:=so hF
 exact ⟨rfl,hst⟩
theorem slices_pdqsortCmpFunc_int_c {fu : Nat} {data : List Int} {a : Int} {b : Int} {limit : Int} {cmp : (Int→Int→Option Int)} {v0 : Value} {v4 : Value} {H : FH} {w : World} (hst : Star H w [oF 3 RP.int v0 data]) (h4 : Fun2 Try.prog RP.int RP.int false (Value.int .i64) cmp v4 H) {r : List Int} (hF : slices_pdqsortCmpFunc_int fu data a b limit cmp = some r) :
 C Try.prog 123 #[v0,I a,I b,I limit,v4] w fun v w'=>v = .tuple #[]∧Star H w' [oF 3 RP.int v0 r]:=by
 unfold slices_pdqsortCmpFunc_int at hF
 obtain ⟨fid_4,caps_4,rfl,hcall_4,hc_4⟩:=h4
 refine C_enter Try.func123 rfl Try.ntmps123 rfl (sq (aB rfl (ns (aB rfl (nn ?_)))))
 obtain ⟨j2,hL2,hF⟩:=bind_some hF
 obtain ⟨R2,hR2⟩:=exR fun f w_=>j2 = .nx ()∧Star H w_ ([oF 3 RP.int v0 data])
 refine W_join R2 ?_ ?_
 refine W_block ?_
 obtain ⟨I2,hI2⟩:=exI fun n f w_=>whileL (slices_pdqsortCmpFunc_int_b1 fu data a b cmp) n () = some j2∧f 0 = v0∧f 1 = I a∧f 2 = I b∧f 4 = .func (.func fid_4) #[] caps_4∧Star H w_ ([oF 3 RP.int v0 data])
 refine W_loop I2 (n:=fu) ?_ ?_
 exact ij hI2 ⟨hL2,rfl,rfl,rfl,rfl,hst⟩
 intro n2 f w_ hI
 obtain ⟨hL2,sf0,sf1,sf2,sf4,hst⟩:=ik hI2 hI
 rcases n2 with _ | n2
 exact (while_zero hL2).elim
 obtain ⟨o2,hB2,hL2⟩:=while_succ hL2
 rw [slices_pdqsortCmpFunc_int_b1] at hB2
 refine W_block (sq (mF sf2 rfl (mF sf1 rfl (L_sub rfl rfl rfl (aI rfl (nq (sq (mI rfl (L_leq rfl rfl rfl (nn (W_cond (b:=decide ((i64 (b - a))≤12)) rfl (fun hc3=>?_) (fun hc3=>?_))))))))))))
 have hB2:=(ite_t hc3).symm.trans hB2
 refine W_seq ?_
 obtain ⟨x9,hx9,hB2⟩:=bind_some hB2
 refine W_region (mF sf0 rfl (mF sf1 rfl (mF sf2 rfl (mF sf4 rfl ?_))))
 obtain ⟨H11b,l12,s13,z14,k15⟩:=hst.lend [_]
 refine L_call rfl Try.call135 (ops4 rfl rfl rfl rfl) (slices_insertionSortCmpFunc_int_c (data:=data) (a:=a) (b:=b) (cmp:=cmp) s13 (Fun2.le ⟨_,_,rfl,hcall_4,hc_4⟩ l12) hx9) ?_
 rintro _ w16 ⟨rfl,hst⟩
 have hst:=k15 hst (co closed_int c0)
 refine nn (W_ret (ret0 Try.results123 ?_))
 obtain rfl:=so hB2
 obtain rfl:=so hL2
 obtain rfl:=so hF
 exact ⟨rfl,hst⟩
 have hB2:=(ite_f hc3).symm.trans hB2
 refine W_skip ?_
 cases hB2
 intro f w_ hR
 obtain ⟨rfl,hst⟩:=rk hR2 hR
 refine ret0 Try.results123 ?_
 obtain rfl:=so hF
 exact ⟨rfl,hst⟩
theorem slices_SortFunc_int_c {fu : Nat} {x : List Int} {cmp : (Int→Int→Option Int)} {v0 : Value} {v1 : Value} {H : FH} {w : World} (hst : Star H w [oF 3 RP.int v0 x]) (h1 : Fun2 Try.prog RP.int RP.int false (Value.int .i64) cmp v1 H) {r : List Int} (hF : slices_SortFunc_int fu x cmp = some r) :
 C Try.prog 91 #[v0,v1] w fun v w'=>v = .tuple #[]∧Star H w' [oF 3 RP.int v0 r]:=by
 unfold slices_SortFunc_int at hF
 obtain ⟨fid_1,caps_1,rfl,hcall_1,hc_1⟩:=h1
 refine C_enter Try.func91 rfl Try.ntmps91 rfl (sq (mV v0 rfl (L_len rfl Try.underlying65 rfl (Star.len 0 hst rfl) (aI rfl (nn ?_)))))
 obtain ⟨x6,hx6,hF⟩:=bind_some hF
 obtain ⟨x13,hx13,hF⟩:=bind_some hF
 refine W_region (mV v0 rfl (mI rfl (mI rfl (L_cv (n:=(x.length : Int)) rfl rfl ⟨_,Try.underlying3⟩ Try.underlying140 ?_))))
 obtain ⟨H15b,l16,s17,z18,k19⟩:=hst.borrow
 refine L_call rfl Try.call124 (ops1 rfl) (bits_Len_c (x_:=IntKind.u64.wrap (x.length : Int)) s17 hx6) ?_
 rintro _ w20 ⟨rfl,hst⟩
 have hst:=k19 hst c0
 refine mV (.func (.func fid_1) #[] caps_1) rfl ?_
 obtain ⟨H21b,l22,s23,z24,k25⟩:=hst.lend [_]
 refine L_call rfl Try.call123 (ops5 rfl rfl rfl rfl rfl) (slices_pdqsortCmpFunc_int_c (data:=x) (a:=0) (b:=(x.length : Int)) (limit:=x6) (cmp:=cmp) s23 (Fun2.le ⟨_,_,rfl,hcall_1,hc_1⟩ l22) hx13) ?_
 rintro _ w26 ⟨rfl,hst⟩
 have hst:=k25 hst (co closed_int c0)
 refine nn (ret0 Try.results91 ?_)
 obtain rfl:=so hF
 exact ⟨rfl,hst⟩
theorem i_ClauseOf_1_c {a : Int} {b : Int} {H : FH} {w : World} (hst : Star H w []) {r : Int} (hF : i_ClauseOf_1 a b = some r) :
 C Try.prog 92 #[I a,I b] w fun v w'=>v = I r∧Star H w' []:=by
 unfold i_ClauseOf_1 at hF
 refine C_enter Try.func92 rfl Try.ntmps92 rfl (sq (aI rfl (nq ?_)))
 obtain ⟨x6,hx6,hF⟩:=bind_some hF
 obtain ⟨x13,hx13,hF⟩:=bind_some hF
 refine W_region (mI rfl ?_)
 obtain ⟨H15b,l16,s17,z18,k19⟩:=hst.borrow
 refine L_call rfl Try.call93 (ops1 rfl) (i_variableOf_c (l:=a) s17 hx6) ?_
 rintro _ w20 ⟨rfl,hst⟩
 have hst:=k19 hst c0
 refine mI rfl ?_
 obtain ⟨H21b,l22,s23,z24,k25⟩:=hst.borrow
 refine L_call rfl Try.call93 (ops1 rfl) (i_variableOf_c (l:=b) s23 hx13) ?_
 rintro _ w26 ⟨rfl,hst⟩
 have hst:=k25 hst c0
 refine L_sub rfl rfl rfl (aI rfl (nn (W_ret (retG1 (v1:=I (i64 (x6 - x13))) Try.results92 rfl ?_))))
 obtain rfl:=so hF
 exact ⟨rfl,hst⟩
theorem slices_Compact_int_c {s : List Int} {v0 : Value} {H : FH} {w : World} {R : List Ass} (hst : Star H w R) (h0 : (rS 3 RP.int).rel H [v0] s) {r : List Int} (hF : slices_Compact_int s = some r) :
 C Try.prog 94 #[v0] w fun v w'=>∃ H' : FH,Le H H'∧∃ (u1 : Value),v = u1∧(rS 3 RP.int).rel H' [u1] r∧Star H' w' (R):=by
 unfold slices_Compact_int at hF
 refine C_enter Try.func94 rfl Try.ntmps94 rfl (sq (aV S0 rfl (nq (sq (mV v0 rfl (L_len rfl Try.underlying65 rfl (slice_len h0) (L_lss rfl rfl rfl (nn (W_cond (b:=decide ((s.length : Int) < 2)) rfl (fun hc1=>?_) (fun hc1=>?_))))))))))
 have hF:=(ite_t hc1).symm.trans hF
 refine sq (mV v0 rfl (aV v0 rfl (nn (W_ret (retG1 (v1:=v0) Try.results94 rfl ?_)))))
 obtain rfl:=so hF
 exact ⟨H,(Le.refl _),v0,rfl,h0,hst⟩
 have hF:=(ite_f hc1).symm.trans hF
 refine W_skip (W_seq (sq (aI rfl (nn ?_))))
 obtain ⟨k6,hk6,hF⟩:=bind_some hF
 obtain ⟨j5,hL5,hF⟩:=bind_some hF
 obtain ⟨R5,hR5⟩:=exR fun f w_=>∃ H3 : FH,j5 = .nx ()∧Le H H3∧f 0 = v0∧Star H3 w_ (R)
 refine W_join R5 ?_ ?_
 refine W_block ?_
 obtain ⟨I5,hI5⟩:=exI fun n f w_=>∃ i_2 : Nat,∃ suf5 : Nat,∃ H3 : FH,suf5 = n∧1≤i_2∧i_2 + suf5 = 1 + k6∧countL (slices_Compact_int_b1 s) suf5 i_2 () = some j5∧Le H H3∧f 0 = v0∧f 3 = I i_2∧Star H3 w_ (R)
 refine W_loop I5 (n:=k6) ?_ ?_
 exact ij hI5 ⟨1,k6,H,rfl,Nat.le_refl _,rfl,hL5,(Le.refl _),rfl,rfl,hst⟩
 intro n5 f w_ hI
 obtain ⟨i_2,suf5,H3,rfl,hs5,hl5,hL5,l4,sf0,sf3,hst⟩:=ik hI5 hI
 refine W_seq (sq (mF sf3 rfl (mF sf0 rfl (L_len rfl Try.underlying65 rfl (slice_len (RP.mono _ h0 l4)) (L_lss rfl rfl rfl (nn (W_cond (b:=decide ((i_2 : Int) < (s.length : Int))) rfl (fun hc7=>?_) (fun hc7=>?_))))))))
 have hlt5:=of_decide_eq_true hc7
 rcases suf5 with _ | rest5
 exact absurd hlt5 (cntF_no hl5 hk6)
 obtain ⟨o5,hB5,hL5⟩:=count_succ hL5
 rw [slices_Compact_int_b1] at hB5
 refine W_skip (W_seq (W_block (W_seq ?_)))
 obtain ⟨x8,hx8,hB5⟩:=bind_some hB5
 obtain ⟨x13,hx13,hB5⟩:=bind_some hB5
 refine W_drawS 9 [isV (v0),isV (I i_2),isEl RP.int x8 0,isV (I x8),isV (v0),isV (I i_2),isV (I (i64 ((i_2 : Int) - 1))),isEl RP.int x13 0,isV (I x13)] [] [] (R) [([],[]),([],[]),([],[]),([],[]),([],[]),([],[]),([],[]),([],[]),([],[])] (S:=[]) Try_mix (by kernel_rfl) rfl (by kernel_rfl) (amF_cons (mono_V _) (amF_cons (mono_V _) (amF_cons (mono_el _ _ _) (amF_cons (mono_V _) (amF_cons (mono_V _) (amF_cons (mono_V _) (amF_cons (mono_V _) (amF_cons (mono_el _ _ _) (amF_cons (mono_V _) amF_nil))))))))) hst ?_ (fun f w_ H18 hS18 hE18 hT18 hst=>?_)
 refine opsS_cons (fun f w_ _ _ s _ _ hst=>mF ((s 0 rfl).trans sf0) rfl (nO rfl rfl hst)) (opsS_cons (fun f w_ _ _ s _ _ hst=>mF ((s 3 rfl).trans sf3) rfl (nO rfl rfl hst)) (opsS_cons ?_ ?_))
 intro f w_ H18 X18 hS18 hE18 hP18 hst
 refine L_ix (r:=RP.int) rfl Try.underlying65 Try.sizeOf3 (hP18 0 16 rfl rfl) (RP.mono _ h0 (Le.trans l4 hE18)) (hP18 1 17 rfl rfl) hx8 (fun g27 o28 cs_g27 hrk_hat29 hat29=>?_)
 obtain rfl : _ = [_]:=hrk_hat29
 exact L_nil ⟨rfl,_,_,rfl,Le.refl _,fun _ _=>⟨_,_,_,rfl,rfl,hat29⟩,hst⟩
 refine opsS_cons ?_ ?_
 intro f w_ H18 X18 hS18 hE18 hP18 hst
 obtain ⟨g31,o31,cs31,hv31,hrk_hat31,hat31⟩:=(hP18 2 18 rfl rfl)
 obtain rfl : _ = [_]:=hrk_hat31
 refine L_ld rfl Try.isAgg3 hv31 (At.cell (AtH.at hat31 hst.sub) (j:=0) rfl) (L_nil ⟨rfl,_,_,rfl,Le.refl _,fun _ _=>rfl,hst⟩)
 refine opsS_cons (fun f w_ _ _ s _ _ hst=>mF ((s 0 rfl).trans sf0) rfl (nO rfl rfl hst)) (opsS_cons (fun f w_ _ _ s _ _ hst=>mF ((s 3 rfl).trans sf3) rfl (nO rfl rfl hst)) (opsS_cons (fun f w_ _ _ _ _ p hst=>L_sub rfl (p 5 21 rfl rfl) rfl (nO rfl rfl hst)) (opsS_cons ?_ ?_)))
 intro f w_ H18 X18 hS18 hE18 hP18 hst
 refine L_ix (r:=RP.int) rfl Try.underlying65 Try.sizeOf3 (hP18 4 20 rfl rfl) (RP.mono _ h0 (Le.trans l4 hE18)) (hP18 6 22 rfl rfl) hx13 (fun g33 o34 cs_g33 hrk_hat35 hat35=>?_)
 obtain rfl : _ = [_]:=hrk_hat35
 exact L_nil ⟨rfl,_,_,rfl,Le.refl _,fun _ _=>⟨_,_,_,rfl,rfl,hat35⟩,hst⟩
 refine opsS_cons ?_ ?_
 intro f w_ H18 X18 hS18 hE18 hP18 hst
 obtain ⟨g37,o37,cs37,hv37,hrk_hat37,hat37⟩:=(hP18 7 23 rfl rfl)
 obtain rfl : _ = [_]:=hrk_hat37
 refine L_ld rfl Try.isAgg3 hv37 (At.cell (AtH.at hat37 hst.sub) (j:=0) rfl) (L_nil ⟨rfl,_,_,rfl,Le.refl _,fun _ _=>rfl,hst⟩)
 exact opsS_nil
 refine L_eql rfl (hT18 3 19 rfl rfl) (hT18 8 24 rfl rfl) (nn ?_)
 obtain ⟨_,hA39,hB5⟩:=bind_some hB5
 obtain ⟨R39,hR39⟩:=exR fun f w_=>f 0 = v0∧f 3 = I i_2∧Star H18 w_ (R)
 refine W_join R39 ?_ ?_
 refine W_cond (b:=(x8 == x13)) rfl (fun hc40=>?_) (fun hc40=>?_)
 have hA39:=(ite_t hc40).symm.trans hA39
 cases hA39
 have hA39:=(ite_f hc40).symm.trans hA39
 refine W_skip (rj hR39 ⟨((hS18 0 rfl).trans sf0),((hS18 3 rfl).trans sf3),hst⟩)
 intro f w_ hR
 obtain ⟨sf0,sf3,hst⟩:=rk hR39 hR
 refine W_region (mF sf3 rfl (L_add rfl rfl rfl (aI rfl (nn ?_))))
 obtain rfl:=so hB5
 show ∃ m,m < _∧I5 m _ _
 refine ⟨rest5,Nat.lt_succ_self _,?_⟩
 exact ij hI5 ⟨i_2 + 1,rest5,H18,rfl,by omega,by omega,hL5,(Le.trans l4 hE18),sf0,(Eq.trans rfl (congrArg (Value.int .i64) (i64_succ (n:=1 + k6) (by omega) (cntF_le hk6)))),hst⟩
 rcases suf5 with _ | _
 obtain rfl:=count_zero hL5
 refine W_exit (rj hR5 ⟨H3,rfl,l4,sf0,hst⟩)
 exact absurd (cntF_yes hs5 hl5 hk6) (of_decide_eq_false hc7)
 intro f w_ hR
 obtain ⟨H3,rfl,l4,sf0,hst⟩:=rk hR5 hR
 refine sq (mF sf0 rfl (aV v0 rfl (nn (W_ret (retG1 (v1:=v0) Try.results94 rfl ?_)))))
 obtain rfl:=so hF
 exact ⟨H3,l4,v0,rfl,(RP.mono _ h0 l4),hst⟩
theorem i_ClauseOf_c {fu : Nat} {lits : List Int} {v0 : Value} {H : FH} {w : World} (hst : Star H w []) (h0 : (rS 3 RP.int).rel H [v0] lits) {r : Con × Bool} (hF : i_ClauseOf fu lits = some r) :
 C Try.prog 46 #[v0] w fun v w'=>∃ (u1 : Value),v = .tuple #[.agg #[u1,I r.1.bound],Bo r.2]∧Star H w' [oF 112 rTerm u1 r.1.terms]:=by
 unfold i_ClauseOf at hF
 refine C_enter Try.func46 rfl Try.ntmps46 rfl (sq (L_al (cs:=#[S0,I 0]) rfl Try.zeroValue43 rfl hst (fun g3 w4 hst=>aB rfl (nq (sq (mV v0 rfl (L_len rfl Try.underlying65 rfl (slice_len h0) (L_gtr rfl rfl rfl (nn (W_cond (b:=decide ((lits.length : Int) > 40)) rfl (fun hc5=>?_) (fun hc5=>?_)))))))))))
 have hF:=(ite_t hc5).symm.trans hF
 refine sq (L_bld rfl (parts0 ) (bld_43_  ) (L_staB (vs:=#[S0,I 0]) (cs2:=#[S0,I 0]) 0 rfl Try.sizeOf43 rfl rfl rfl (ones_cons rfl (ones_cons rfl ones_nil)) hst rfl (by show 0 + 2≤2; decide) rfl (fun w7 hst=>aB rfl (nn (W_ret (retG2 (v1:=.agg #[S0,I 0]) (v2:=Bo false) Try.results46 (resV_agg Try.isAgg43 Try.sizeOf43 rfl (Star.blkAt 0 hst rfl) rfl) rfl ?_))))))
 obtain rfl:=so hF
 have hst:=Star.addNil (R:=(OR.frz rTerm)) (e:=112) hst
 exact ⟨S0,rfl,(Star.keepN 1 hst)⟩
 have hF:=(ite_f hc5).symm.trans hF
 refine W_skip (W_seq (sq (mV v0 rfl (L_len rfl Try.underlying65 rfl (slice_len h0) (mI rfl (nn ?_))))))
 have hlen10 : List.length lits≤9223372036854775807:=len_le (slice_len h0)
 obtain ⟨j10,hL10,hF⟩:=bind_some hF
 obtain ⟨R10,hR10⟩:=exR fun f w_=>j10 = .nx ()∧f 0 = v0∧f 2 = Pt g3∧Star H w_ ([box g3 43 #[S0,I 0]])
 refine W_join R10 ?_ ?_
 refine W_block ?_
 obtain ⟨I10,hI10⟩:=exI fun n f w_=>∃ i_9 : Nat,∃ suf10 : List Int,n = suf10.length∧List.drop i_9 lits = suf10∧i_9 + suf10.length = lits.length∧rangeL (i_ClauseOf_b1 lits) suf10 i_9 () = some j10∧f 0 = v0∧f 2 = Pt g3∧f 14 = v0∧f 15 = I (lits.length : Int)∧f 16 = I i_9∧Star H w_ ([box g3 43 #[S0,I 0]])
 refine W_loop I10 (n:=lits.length) ?_ ?_
 exact ij hI10 ⟨0,lits,rfl,rfl,Nat.zero_add _,hL10,rfl,rfl,rfl,rfl,rfl,hst⟩
 intro n10 f w_ hI
 obtain ⟨i_9,suf10,rfl,hd10,hl10,hL10,sf0,sf2,sf14,sf15,sf16,hst⟩:=ik hI10 hI
 refine sq (L_lss rfl sf16 sf15 (nq (W_cond (b:=decide ((i_9 : Int) < (lits.length : Int))) rfl (fun hc11=>?_) (fun hc11=>?_))))
 have hlt10:=of_decide_eq_true hc11
 rcases suf10 with _ | ⟨x_10,rest10⟩
 exact absurd hlt10 (by simp at hl10; omega)
 obtain ⟨o10,hB10,hL10⟩:=range_cons hL10
 rw [i_ClauseOf_b1] at hB10
 have hix10:=drop_idx hd10
 refine W_skip (W_seq (W_block (sq (L_ix (r:=RP.int) rfl Try.underlying65 Try.sizeOf3 sf14 h0 sf16 hix10 (fun g16 o17 cs_g16 hrk_hat18 hat18=>?_)))))
 obtain rfl : _ = [_]:=hrk_hat18
 refine L_ld rfl Try.isAgg3 rfl (At.cell (AtH.at hat18 hst.sub) (j:=0) rfl) (aI rfl (nq ?_))
 obtain ⟨x25,hx25,hB10⟩:=bind_some hB10
 obtain ⟨b34,hb34,hB10⟩:=bind_some hB10
 obtain ⟨R35,hR35⟩:=exR fun f w_=>f 0 = v0∧f 2 = Pt g3∧f 14 = v0∧f 15 = I (lits.length : Int)∧f 16 = I i_9∧f 28 = Bo b34∧Star H w_ ([box g3 43 #[S0,I 0]])
 refine W_join R35 ?_ ?_
 refine W_region (mI rfl ?_)
 obtain ⟨H36b,l37,s38,z39,k40⟩:=hst.borrow
 refine L_call rfl Try.call88 (ops1 rfl) (i_isLiteral_c (l:=x_10) s38 hx25) ?_
 rintro _ w41 ⟨rfl,hst⟩
 have hst:=k40 hst c0
 refine L_not_ rfl rfl (mB rfl (L_split (d:=23) (b:=(!x25)) rfl (fun hc42=>?_) (fun hc42=>?_)))
 rw [ite_t hc42] at hb34
 refine ps rfl (ps rfl (ps rfl (ps rfl (L_pick (v:=Bo b34) rfl rfl (congrArg Value.bool (so hb34)) (nn (rj hR35 ⟨sf0,sf2,sf14,sf15,sf16,rfl,hst⟩))))))
 rw [ite_f hc42] at hb34
 obtain ⟨x32,hx32,hb34⟩:=bind_some hb34
 refine mF sf0 rfl (mI rfl (L_neg rfl rfl ?_))
 obtain ⟨H43b,l44,s45,z46,k47⟩:=hst.borrow
 refine L_call rfl Try.call89 (ops2 rfl rfl) (slices_Contains_int_c (s:=lits) (v_:=i64 (-x_10)) s45 (RP.mono _ h0 l44) hx32) ?_
 rintro _ w48 ⟨rfl,hst⟩
 have hst:=k47 hst c0
 refine L_pick (v:=Bo b34) rfl rfl (congrArg Value.bool (so hb34)) (nn (rj hR35 ⟨sf0,sf2,sf14,sf15,sf16,rfl,hst⟩))
 intro f w_ hR
 obtain ⟨sf0,sf2,sf14,sf15,sf16,sf28,hst⟩:=rk hR35 hR
 refine W_cond (b:=b34) sf28 (fun hc49=>?_) (fun hc49=>?_)
 have hB10:=(ite_t hc49).symm.trans hB10
 refine sq (L_bld rfl (parts0 ) (bld_43_  ) (L_staB (vs:=#[S0,I 0]) (cs2:=#[S0,I 0]) 0 rfl Try.sizeOf43 sf2 rfl rfl (ones_cons rfl (ones_cons rfl ones_nil)) hst rfl (by show 0 + 2≤2; decide) rfl (fun w51 hst=>aB rfl (nn (W_ret (retG2 (v1:=.agg #[S0,I 0]) (v2:=Bo false) Try.results46 (resV_agg Try.isAgg43 Try.sizeOf43 sf2 (Star.blkAt 0 hst rfl) rfl) rfl ?_))))))
 obtain rfl:=so hB10
 obtain rfl:=so hL10
 obtain rfl:=so hF
 have hst:=Star.addNil (R:=(OR.frz rTerm)) (e:=112) hst
 exact ⟨S0,rfl,(Star.keepN 1 hst)⟩
 have hB10:=(ite_f hc49).symm.trans hB10
 refine W_skip (W_region (L_add rfl sf16 rfl (mI rfl (nn ?_))))
 obtain rfl:=so hB10
 show ∃ m,m < _∧I10 m _ _
 refine ⟨rest10.length,by simp,?_⟩
 exact ij hI10 ⟨i_9 + 1,rest10,rfl,drop_next hd10,by simp at hl10; omega,hL10,sf0,sf2,sf14,sf15,(Eq.trans rfl (congrArg (Value.int .i64) (i64_succ (n:=lits.length) (by simp at hl10; omega) hlen10))),hst⟩
 rcases suf10 with _ | ⟨_,_⟩
 obtain rfl:=range_nil hL10
 refine W_exit (rj hR10 ⟨rfl,sf0,sf2,hst⟩)
 exact absurd (of_decide_eq_false hc11) (by simp at hl10; omega)
 intro f w_ hR
 obtain ⟨rfl,sf0,sf2,hst⟩:=rk hR10 hR
 refine W_seq ?_
 obtain ⟨x58,hx58,hF⟩:=bind_some hF
 refine W_region (mF sf0 rfl ?_)
 obtain ⟨H61b,l62,s63,z64,k65⟩:=hst.borrow
 refine L_call rfl Try.call90 (ops1 rfl) (slices_Clone_int_c (s:=lits) s63 (RP.mono _ h0 l62) hx58) ?_
 rintro r66_0 w66 ⟨_,rfl,hst⟩
 have hst:=k65 hst (co closed_int c0)
 refine aV r66_0 rfl (nq ?_)
 obtain ⟨x73,hx73,hF⟩:=bind_some hF
 refine W_region (mV r66_0 rfl ?_)
 obtain ⟨H75b,l76,s77,z78,k79⟩:=hst.lend [_]
 have hf80 : Fun2 Try.prog RP.int RP.int false (Value.int .i64) i_ClauseOf_1 (.func (.func 92) #[] #[]) H75b:=by
   refine ⟨_,_,rfl,Try.call92,fun H_ w_ hE_ hs_ cs1_ cs2_ x1_ x2_ y_ args_ hr1_ hr2_ hy_ ha_=>?_⟩
   obtain rfl : cs1_ = [_]:=hr1_
   obtain rfl : cs2_ = [_]:=hr2_
   obtain rfl:=args_of (b:=#[I x1_,I x2_]) ha_
   exact i_ClauseOf_1_c (a:=x1_) (b:=x2_) hs_  hy_
 refine L_call rfl Try.call91 (ops2 rfl rfl) (slices_SortFunc_int_c (x:=x58) (cmp:=i_ClauseOf_1) s77 hf80 hx73) ?_
 rintro _ w81 ⟨rfl,hst⟩
 have hst:=k79 hst (co closed_int c0)
 refine ns (L_bld rfl (parts1 rfl) (bld_43_1 (I 1) rfl) (L_al (cs:=#[S0,I 0]) rfl Try.zeroValue43 rfl hst (fun g85 w86 hst=>L_staB (vs:=#[S0,I 1]) (cs2:=#[S0,I 1]) 0 rfl Try.sizeOf43 rfl rfl rfl (ones_cons rfl (ones_cons rfl ones_nil)) hst rfl (by show 0 + 2≤2; decide) rfl (fun w87 hst=>nq (W_seq ?_)))))
 obtain ⟨x91,hx91,hF⟩:=bind_some hF
 refine W_region (mV r66_0 rfl ?_)
 have hst:=hst.get 1 rfl
 obtain ⟨H93,l94,hst,hz95⟩:=Star.freeze hst
 have hz95 : (rS 3 RP.int).rel H93 [r66_0] x73:=hz95
 refine L_call rfl Try.call94 (ops1 rfl) (slices_Compact_int_c (s:=x73) hst hz95 hx91) ?_
 rintro r96_0 w96 ⟨H96,l96,_,rfl,hr96_0,hst⟩
 refine L_len rfl Try.underlying65 rfl (slice_len hr96_0) (mI rfl (nn ?_))
 have hlen100 : List.length x91≤9223372036854775807:=len_le (slice_len hr96_0)
 obtain ⟨j100,hL100,hF⟩:=bind_some hF
 obtain ⟨R100,hR100⟩:=exR fun f w_=>∃ g85_0_98 : List Term,∃ v98_g85_0 : Value,j100 = .nx g85_0_98∧f 2 = Pt g3∧f 7 = Pt g85∧Star H96 w_ ([oF 112 rTerm v98_g85_0 g85_0_98,box g85 43 #[v98_g85_0,I 1],box g3 43 #[S0,I 0]])
 refine W_join R100 ?_ ?_
 refine W_block ?_
 obtain ⟨I100,hI100⟩:=exI fun n f w_=>∃ i_97 : Nat,∃ suf100 : List Int,∃ g85_0_98 : List Term,∃ v98_g85_0 : Value,n = suf100.length∧List.drop i_97 x91 = suf100∧i_97 + suf100.length = x91.length∧rangeL i_ClauseOf_b2 suf100 i_97 g85_0_98 = some j100∧f 2 = Pt g3∧f 7 = Pt g85∧f 37 = r96_0∧f 38 = I (x91.length : Int)∧f 39 = I i_97∧Star H96 w_ ([oF 112 rTerm v98_g85_0 g85_0_98,box g85 43 #[v98_g85_0,I 1],box g3 43 #[S0,I 0]])
 have hst:=Star.addNil (R:=(OR.frz rTerm)) (e:=112) hst
 refine W_loop I100 (n:=x91.length) ?_ ?_
 exact ij hI100 ⟨0,x91,[],S0,rfl,rfl,Nat.zero_add _,hL100,sf2,rfl,rfl,rfl,rfl,hst⟩
 intro n100 f w_ hI
 obtain ⟨i_97,suf100,g85_0_98,v98_g85_0,rfl,hd100,hl100,hL100,sf2,sf7,sf37,sf38,sf39,hst⟩:=ik hI100 hI
 refine sq (L_lss rfl sf39 sf38 (nq (W_cond (b:=decide ((i_97 : Int) < (x91.length : Int))) rfl (fun hc102=>?_) (fun hc102=>?_))))
 have hlt100:=of_decide_eq_true hc102
 rcases suf100 with _ | ⟨x_100,rest100⟩
 exact absurd hlt100 (by simp at hl100; omega)
 obtain ⟨o100,hB100,hL100⟩:=range_cons hL100
 rw [i_ClauseOf_b2] at hB100
 have hix100:=drop_idx hd100
 refine W_skip (W_seq (W_block (sq (L_ix (r:=RP.int) rfl Try.underlying65 Try.sizeOf3 sf37 hr96_0 sf39 hix100 (fun g107 o108 cs_g107 hrk_hat109 hat109=>?_)))))
 obtain rfl : _ = [_]:=hrk_hat109
 refine L_ld rfl Try.isAgg3 rfl (At.cell (AtH.at hat109 hst.sub) (j:=0) rfl) (aI rfl (nn ?_))
 obtain ⟨x114,hx114,hB100⟩:=bind_some hB100
 refine W_region (fA 0 fa_43_0 sf7 rfl (ldB 1 hst Try.isAgg41 rfl rfl rfl (mI rfl (L_bld rfl (parts2 rfl rfl) (bld_112_0_1 (I 1) (I x_100) rfl rfl) (L_bs rfl (parts1 rfl) (bs_41_1_2 (I 1) (I x_100) ) hst (fun g119 w120 hst=>?_))))))
 have hst:=Star.addF (r:=rTerm) (cs:=[I 1,I x_100]) (x:=({ coef:=1,lit:=x_100 } : Term)) hst (rTerm_iff.2 rfl)
 have hst:=Star.mkRow (R:=(OR.frz rTerm)) [([I 1,I x_100],({ coef:=1,lit:=x_100 } : Term))] [({ coef:=1,lit:=x_100 } : Term)] 1 hst rfl rfl rfl (by decide)
 have hst:=hst.get 1 rfl
 refine L_appM (v:=v98_g85_0) (u:=(Sl g119 1 1)) rfl et_41 rfl rfl hst hx114 (fun v122 w123 hst=>fA 0 fa_43_0 sf7 rfl (L_stB (v:=v122) (cs2:=#[v122,I 1]) 1 rfl Try.sizeOf41 rfl rfl (one_len (Star.len 0 hst rfl)) hst rfl rfl rfl (fun w125 hst=>nn (W_region (L_add rfl sf39 rfl (mI rfl (nn ?_)))))))
 obtain rfl:=so hB100
 have hst:=hst.gets [2,1,2] rfl
 show ∃ m,m < _∧I100 m _ _
 refine ⟨rest100.length,by simp,?_⟩
 exact ij hI100 ⟨i_97 + 1,rest100,x114,v122,rfl,drop_next hd100,by simp at hl100; omega,hL100,sf2,sf7,sf37,sf38,(Eq.trans rfl (congrArg (Value.int .i64) (i64_succ (n:=x91.length) (by simp at hl100; omega) hlen100))),hst⟩
 rcases suf100 with _ | ⟨_,_⟩
 obtain rfl:=range_nil hL100
 refine W_exit (rj hR100 ⟨g85_0_98,v98_g85_0,rfl,sf2,sf7,hst⟩)
 exact absurd (of_decide_eq_false hc102) (by simp at hl100; omega)
 intro f w_ hR
 obtain ⟨g85_0_98,v98_g85_0,rfl,sf2,sf7,hst⟩:=rk hR100 hR
 refine sq (L_lda (cs:=[v98_g85_0,I 1]) rfl Try.isAgg43 Try.sizeOf43 sf7 (At.sub0 (Blk.at (Star.blkAt 1 hst rfl)) 0 2) rfl (L_staB (vs:=#[v98_g85_0,I 1]) (cs2:=#[v98_g85_0,I 1]) 2 rfl Try.sizeOf43 sf2 rfl rfl (ones_cons (one_len (Star.len 0 hst rfl)) (ones_cons rfl ones_nil)) hst rfl (by show 0 + 2≤2; decide) rfl (fun w127 hst=>aB rfl (nn (W_ret (retG2 (v1:=.agg #[v98_g85_0,I 1]) (v2:=Bo true) Try.results46 (resV_agg Try.isAgg43 Try.sizeOf43 sf2 (Star.blkAt 0 hst rfl) rfl) rfl ?_))))))
 obtain rfl:=so hF
 have hst:=hst.get 1 rfl
 exact ⟨v98_g85_0,rfl,(Star.down (Star.keepN 1 hst) (Le.trans l94 l96) (co closed_term c0))⟩
theorem slices_Clone_implTerm_c {s : List Term} {v0 : Value} {H : FH} {w : World} (hst : Star H w []) (h0 : (rS 112 rTerm).rel H [v0] s) {r : List Term} (hF : slices_Clone_implTerm s = some r) :
 C Try.prog 145 #[v0] w fun v w'=>∃ (u1 : Value),v = u1∧Star H w' [oF 112 rTerm u1 r]:=by
 unfold slices_Clone_implTerm at hF
 refine C_enter Try.func145 rfl Try.ntmps145 rfl (sq (aV S0 rfl (nq (sq (mV v0 rfl ?_)))))
 obtain ⟨a1,cap1,hsl1,_,_⟩:=(slice_len h0)
 refine L_nileq (a:=a1) rfl Try.underlying41 (Eq.trans rfl hsl1) rfl ?_
 rw [← hsl1]
 refine nn ?_
 rcases Bool.eq_false_or_eq_true (isNilS v0) with hn2 | hn2
 refine W_cond (b:=true) (Eq.trans rfl (congrArg Value.bool hn2)) (fun _=>?_) (fun h=>nomatch h)
 obtain rfl:=nil_of h0 hn2
 refine sq (aV S0 rfl (nn (W_ret (retG1 (v1:=S0) Try.results145 rfl ?_))))
 simp [app] at hF
 subst hF
 have hst:=Star.addNil (R:=(OR.frz rTerm)) (e:=112) hst
 exact ⟨S0,rfl,hst⟩
 refine W_cond (b:=false) (Eq.trans rfl (congrArg Value.bool hn2)) (fun h=>nomatch h) (fun _=>?_)
 refine W_skip (W_seq ?_)
 obtain ⟨x7,hx7,hF⟩:=bind_some hF
 refine W_region (L_bs rfl parts0 (bs_41_0  ) hst (fun g11 w12 hst=>?_))
 have hst:=Star.mkRow (R:=(OR.frz rTerm)) [] [] 0 hst rfl rfl rfl (by decide)
 refine mV v0 rfl (L_app (v:=(Sl g11 0 0)) (u:=v0) rfl et_41 rfl rfl hst h0 hx7 (fun v14 w15 hst=>aV v14 rfl (nn (W_ret (retG1 (v1:=v14) Try.results145 rfl ?_)))))
 obtain rfl:=so hF
 exact ⟨v14,rfl,hst⟩
theorem i_Constraint_own_c {c : Con} {v0_0 : Value} {H : FH} {w : World} (hst : Star H w []) (h0_0 : (rS 112 rTerm).rel H [v0_0] c.terms) {r : Con} (hF : i_Constraint_own c = some r) :
 C Try.prog 127 #[.agg #[v0_0,I c.bound]] w fun v w'=>∃ (u1 : Value),v = .agg #[u1,I r.bound]∧Star H w' [oF 112 rTerm u1 r.terms]:=by
 unfold i_Constraint_own at hF
 refine C_enter Try.func127 rfl Try.ntmps127 rfl (sq (L_box (v:=.agg #[v0_0,I c.bound]) (cs:=#[v0_0,I c.bound]) rfl rfl rfl hst (fun g5 w6 hst=>L_al (cs:=#[S0,I 0]) rfl Try.zeroValue43 rfl hst (fun g7 w8 hst=>nq ?_))))
 obtain ⟨x14,hx14,hF⟩:=bind_some hF
 refine W_region (fA 0 fa_43_0 rfl rfl (ldB 1 hst Try.isAgg41 rfl rfl rfl ?_))
 obtain ⟨H18b,l19,s20,z21,k22⟩:=hst.borrow
 refine L_call rfl Try.call145 (ops1 rfl) (slices_Clone_implTerm_c (s:=c.terms) s20 (RP.mono _ h0_0 l19) hx14) ?_
 rintro r23_0 w23 ⟨_,rfl,hst⟩
 have hst:=k22 hst (co closed_term c0)
 refine fA 0 fa_43_0 rfl rfl (L_stB (v:=r23_0) (cs2:=#[r23_0,I c.bound]) 2 rfl Try.sizeOf41 rfl rfl (one_len (Star.len 0 hst rfl)) hst rfl rfl rfl (fun w25 hst=>ns (L_lda (cs:=[r23_0,I c.bound]) rfl Try.isAgg43 Try.sizeOf43 rfl (At.sub0 (Blk.at (Star.blkAt 0 hst rfl)) 0 2) rfl (L_staB (vs:=#[r23_0,I c.bound]) (cs2:=#[r23_0,I c.bound]) 2 rfl Try.sizeOf43 rfl rfl rfl (ones_cons (one_len (Star.len 1 hst rfl)) (ones_cons rfl ones_nil)) hst rfl (by show 0 + 2≤2; decide) rfl (fun w27 hst=>nn (W_ret (retG1 (v1:=.agg #[r23_0,I c.bound]) Try.results127 (resV_agg Try.isAgg43 Try.sizeOf43 rfl (Star.blkAt 0 hst rfl) rfl) ?_)))))))
 obtain rfl:=so hF
 have hst:=hst.get 2 rfl
 exact ⟨r23_0,rfl,(Star.keepN 1 hst)⟩
theorem i_searching_fail_c {fu : Nat} {s : Srch} {decisions : List Int} {g_0 : Nat} {v0_0 : Value} {v0_2 : Value} {v1 : Value} {H : FH} {w : World} {R : List Ass} (hst : Star H w (box g_0 85 #[v0_0,I s.fuel,v0_2,Bo s.much] :: oF 43 (rCon 112) v0_0 s.list :: oS 93 (oStep 112) v0_2 s.steps :: R)) (h1 : (rS 3 RP.int).rel H [v1] decisions) {r : (List Con) × (List Step)} (hF : i_searching_fail fu s decisions = some r) :
 C Try.prog 111 #[Pt g_0,v1] w fun v w'=>∃ H' : FH,Le H H'∧∃ (u1 : Value) (u2 : Value),v = .tuple #[]∧Star H' w' (box g_0 85 #[u1,I s.fuel,u2,Bo s.much] :: oF 43 (rCon 112) u1 r.1 :: oS 93 (oStep 112) u2 r.2 :: R):=by
 unfold i_searching_fail at hF
 refine C_enter Try.func111 rfl Try.ntmps111 rfl (sq (aV S0 rfl (nq (sq (mV v1 rfl (L_len rfl Try.underlying65 rfl (slice_len h1) (mI rfl (nn ?_))))))))
 have hlen4 : List.length decisions≤9223372036854775807:=len_le (slice_len h1)
 obtain ⟨j4,hL4,hF⟩:=bind_some hF
 obtain ⟨R4,hR4⟩:=exR fun f w_=>∃ lits_2 : List Int,∃ v2_lits : Value,j4 = .nx lits_2∧f 0 = Pt g_0∧f 4 = v2_lits∧Star H w_ (oF 3 RP.int v2_lits lits_2 :: oF 43 (rCon 112) v0_0 s.list :: oS 93 (oStep 112) v0_2 s.steps :: box g_0 85 #[v0_0,I s.fuel,v0_2,Bo s.much] :: R)
 refine W_join R4 ?_ ?_
 refine W_block ?_
 obtain ⟨I4,hI4⟩:=exI fun n f w_=>∃ i_1 : Nat,∃ suf4 : List Int,∃ lits_2 : List Int,∃ v2_lits : Value,n = suf4.length∧List.drop i_1 decisions = suf4∧i_1 + suf4.length = decisions.length∧rangeL i_searching_fail_b1 suf4 i_1 lits_2 = some j4∧f 0 = Pt g_0∧f 4 = v2_lits∧f 9 = v1∧f 10 = I (decisions.length : Int)∧f 11 = I i_1∧Star H w_ (oF 3 RP.int v2_lits lits_2 :: oF 43 (rCon 112) v0_0 s.list :: oS 93 (oStep 112) v0_2 s.steps :: box g_0 85 #[v0_0,I s.fuel,v0_2,Bo s.much] :: R)
 have hst:=Star.addNil (R:=(OR.frz RP.int)) (e:=3) hst
 have hst:=hst.gets [1,3,3,3] rfl
 refine W_loop I4 (n:=decisions.length) ?_ ?_
 exact ij hI4 ⟨0,decisions,[],S0,rfl,rfl,Nat.zero_add _,hL4,rfl,rfl,rfl,rfl,rfl,hst⟩
 intro n4 f w_ hI
 obtain ⟨i_1,suf4,lits_2,v2_lits,rfl,hd4,hl4,hL4,sf0,sf4,sf9,sf10,sf11,hst⟩:=ik hI4 hI
 refine sq (L_lss rfl sf11 sf10 (nq (W_cond (b:=decide ((i_1 : Int) < (decisions.length : Int))) rfl (fun hc6=>?_) (fun hc6=>?_))))
 have hlt4:=of_decide_eq_true hc6
 rcases suf4 with _ | ⟨x_4,rest4⟩
 exact absurd hlt4 (by simp at hl4; omega)
 obtain ⟨o4,hB4,hL4⟩:=range_cons hL4
 rw [i_searching_fail_b1] at hB4
 have hix4:=drop_idx hd4
 refine W_skip (W_seq (W_block (sq (L_ix (r:=RP.int) rfl Try.underlying65 Try.sizeOf3 sf9 h1 sf11 hix4 (fun g11 o12 cs_g11 hrk_hat13 hat13=>?_)))))
 obtain rfl : _ = [_]:=hrk_hat13
 refine L_ld rfl Try.isAgg3 rfl (At.cell (AtH.at hat13 hst.sub) (j:=0) rfl) (aI rfl (nn ?_))
 obtain ⟨x18,hx18,hB4⟩:=bind_some hB4
 refine W_region (mF sf4 rfl (mI rfl (L_neg rfl rfl (L_bs rfl (parts1 rfl) (bs_65_1_0 (I (i64 (-x_4))) rfl) hst (fun g22 w23 hst=>?_)))))
 have hst:=Star.addF (r:=RP.int) (cs:=[I (i64 (-x_4))]) (x:=(i64 (-x_4))) hst rfl
 have hst:=Star.mkRow (R:=(OR.frz RP.int)) [([I (i64 (-x_4))],i64 (-x_4))] [i64 (-x_4)] 1 hst rfl rfl rfl (by decide)
 have hst:=hst.get 1 rfl
 refine L_appM (v:=v2_lits) (u:=(Sl g22 1 1)) rfl et_65 rfl rfl hst hx18 (fun v25 w26 hst=>aV v25 rfl (nn (W_region (L_add rfl sf11 rfl (mI rfl (nn ?_))))))
 obtain rfl:=so hB4
 show ∃ m,m < _∧I4 m _ _
 refine ⟨rest4.length,by simp,?_⟩
 exact ij hI4 ⟨i_1 + 1,rest4,x18,v25,rfl,drop_next hd4,by simp at hl4; omega,hL4,sf0,rfl,sf9,sf10,(Eq.trans rfl (congrArg (Value.int .i64) (i64_succ (n:=decisions.length) (by simp at hl4; omega) hlen4))),hst⟩
 rcases suf4 with _ | ⟨_,_⟩
 obtain rfl:=range_nil hL4
 refine W_exit (rj hR4 ⟨lits_2,v2_lits,rfl,sf0,sf4,hst⟩)
 exact absurd (of_decide_eq_false hc6) (by simp at hl4; omega)
 intro f w_ hR
 obtain ⟨lits_2,v2_lits,rfl,sf0,sf4,hst⟩:=rk hR4 hR
 refine W_seq ?_
 obtain ⟨x34,hx34,hF⟩:=bind_some hF
 refine W_region (mF sf4 rfl ?_)
 obtain ⟨H40b,l41,s42,z43,k44⟩:=hst.borrow
 have hb45 : (rS 3 RP.int).rel H40b [v2_lits] lits_2:=fz_own 0 z43 rfl
 refine L_call rfl Try.call46 (ops1 rfl) (i_ClauseOf_c (lits:=lits_2) s42 hb45 hx34) ?_
 rintro _ w46 ⟨r46_0,rfl,hst⟩
 have hst:=k44 hst (co closed_term c0)
 refine mV (.tuple #[.agg #[r46_0,I x34.1.bound],Bo x34.2]) rfl (L_ex (v:=.agg #[r46_0,I x34.1.bound]) rfl rfl rfl (L_ex (v:=Bo x34.2) rfl rfl rfl (L_al (cs:=#[S0,I 0]) rfl Try.zeroValue43 rfl hst (fun g48 w49 hst=>L_staB (vs:=#[r46_0,I x34.1.bound]) (cs2:=#[r46_0,I x34.1.bound]) 0 rfl Try.sizeOf43 rfl rfl rfl (ones_cons (one_len (Star.len 1 hst rfl)) (ones_cons rfl ones_nil)) hst rfl (by show 0 + 2≤2; decide) rfl (fun w50 hst=>aB rfl (nq ?_))))))
 have hst:=hst.get 1 rfl
 obtain ⟨H51,l52,hst,hz53⟩:=Star.freeze hst
 have hz53 : (rS 112 rTerm).rel H51 [r46_0] x34.1.terms:=hz53
 obtain ⟨x57,hx57,hF⟩:=bind_some hF
 have hst:=Star.drop 1 hst rfl
 have hst:=hst.gets [1,3,3,3] rfl
 refine W_drawS 8 [isV (Pt g_0),isV (Pt g_0),isV (Pt g_0),isV (Pt g_0),isV (v0_0),isV (.agg #[r46_0,I x34.1.bound]),anyF,anyF] [box g48 43 #[r46_0,I x34.1.bound],oS 93 (oStep 112) v0_2 s.steps,box g_0 85 #[v0_0,I s.fuel,v0_2,Bo s.much]] [.base (oF 43 (rCon 112) v0_0 s.list) (some 7),.made 6 32 (fun v_=>oF 43 (rCon 112) v_ ([x34.1])) (some 7),.made 7 33 (fun v_=>oF 43 (rCon 112) v_ x57) none] (R) [([],[]),([],[]),([],[]),([],[]),([],[]),([],[]),([],[1]),([0,1],[2])] (S:=[(none,[],some 7),(some 6,[32],some 7),(some 7,[33],none)]) Try_mix (by kernel_rfl) rfl (by kernel_rfl) (amF_cons (mono_V _) (amF_cons (mono_V _) (amF_cons (mono_V _) (amF_cons (mono_V _) (amF_cons (mono_V _) (amF_cons (mono_V _) (amF_cons (mono_any) (amF_cons (mono_any) amF_nil)))))))) hst ?_ (fun f w_ H62 hS62 hE62 hT62 hst=>?_)
 refine opsS_cons (fun f w_ _ _ s _ _ hst=>mF ((s 0 rfl).trans sf0) rfl (nO rfl rfl hst)) (opsS_cons (fun f w_ _ _ s _ _ hst=>mF ((s 0 rfl).trans sf0) rfl (nO rfl rfl hst)) (opsS_cons (fun f w_ _ _ _ _ p hst=>L_nc rfl (p 1 27 rfl rfl) (nO rfl rfl hst)) (opsS_cons (fun f w_ _ _ _ _ p hst=>fA 0 fa_85_0 (p 2 28 rfl rfl) rfl (nO rfl rfl hst)) (opsS_cons (fun f w_ _ _ _ _ p hst=>ldB 2 hst Try.isAgg23 (p 3 29 rfl rfl) rfl rfl (nO rfl rfl hst)) (opsS_cons (fun f w_ _ _ s _ _ hst=>L_lda (cs:=[r46_0,I x34.1.bound]) rfl Try.isAgg43 Try.sizeOf43 ((s 7 rfl).trans rfl) (At.sub0 (Blk.at (Star.blkAt 0 hst rfl)) 0 2) rfl (nO rfl rfl hst)) (opsS_cons ?_ ?_))))))
 intro f w_ H62 X62 hS62 hE62 hP62 hst
 refine L_bs rfl (parts1 (hP62 5 31 rfl rfl)) (bs_23_1_2 (r46_0) (I x34.1.bound) ) hst (fun g69 w70 hst=>?_)
 have hst:=Star.addF (r:=(rCon 112)) (cs:=[r46_0,I x34.1.bound]) (x:=x34.1) hst (rCon_iff.2 ⟨_,rfl,(RP.mono _ hz53 hE62)⟩)
 have hst:=Star.mkRow (R:=(OR.frz (rCon 112))) [([r46_0,I x34.1.bound],x34.1)] [x34.1] 1 hst rfl rfl rfl (by decide)
 have hst:=hst.gets [3,3,3] rfl
 exact L_nil ⟨rfl,_,_,rfl,Le.refl _,fun _ _=>trivial,hst⟩
 refine opsS_cons ?_ ?_
 intro f w_ H62 X62 hS62 hE62 hP62 hst
 have hst : Star H62 w_ (box g48 43 #[r46_0,I x34.1.bound] :: oS 93 (oStep 112) v0_2 s.steps :: box g_0 85 #[v0_0,I s.fuel,v0_2,Bo s.much] :: oF 43 (rCon 112) v0_0 s.list :: oF 43 (rCon 112) (f 32) ([x34.1]) :: X62):=hst
 have hst:=hst.gets [4,4] rfl
 refine L_appM (v:=v0_0) (u:=(f 32)) rfl et_23 (hP62 4 30 rfl rfl) rfl hst hx57 (fun v73 w74 hst=>?_)
 have hst:=hst.gets [3,3,3] rfl
 exact L_nil ⟨rfl,_,_,rfl,Le.refl _,fun _ _=>trivial,hst⟩
 exact opsS_nil
 have hst : Star H62 w_ (box g48 43 #[r46_0,I x34.1.bound] :: oS 93 (oStep 112) v0_2 s.steps :: box g_0 85 #[v0_0,I s.fuel,v0_2,Bo s.much] :: oF 43 (rCon 112) (f 33) x57 :: R):=hst
 refine L_nc rfl (hT62 0 26 rfl rfl) (fA 0 fa_85_0 rfl rfl (L_stB (v:=(f 33)) (cs2:=#[(f 33),I s.fuel,v0_2,Bo s.much]) 2 rfl Try.sizeOf23 rfl rfl (one_len (Star.len 3 hst rfl)) hst rfl rfl rfl (fun w77 hst=>nn ?_)))
 obtain ⟨x83,hx83,hF⟩:=bind_some hF
 obtain ⟨x89,hx89,hF⟩:=bind_some hF
 rename Fr=>f_94
 have hst:=hst.gets [2,3,3,3] rfl
 refine W_drawS 10 [isV (Pt g_0),isV (Pt g_0),isV (Pt g_0),isV (Pq g_0 2),isV (v0_2),isV (.agg #[r46_0,I x34.1.bound]),exA fun u_0=>isV (.agg #[u_0,I x83.bound]),exA fun u_3=>isV (.agg #[I 7,I 0,I 0,u_3,I x83.bound]),anyF,anyF] [box g_0 85 #[(f_94 33),I s.fuel,v0_2,Bo s.much],box g48 43 #[r46_0,I x34.1.bound],oF 43 (rCon 112) (f_94 33) x57] [.base (oS 93 (oStep 112) v0_2 s.steps) (some 9),.made 6 42 (fun v_=>oF 112 rTerm (aggC v_ 0) x83.terms) (some 7),.made 7 43 (fun v_=>oF 112 rTerm (aggC v_ 3) x83.terms) (some 8),.made 8 44 (fun v_=>oS 93 (oStep 112) v_ ([({ kind:=7,a:=0,b:=0,given:=x83 } : Step)])) (some 9),.made 9 45 (fun v_=>oS 93 (oStep 112) v_ x89) none] (R) [([],[]),([],[]),([],[]),([],[]),([],[]),([],[]),([],[1]),([1],[2]),([2],[3]),([0,3],[4])] (S:=[(none,[],some 9),(some 6,[42],some 7),(some 7,[43],some 8),(some 8,[44],some 9),(some 9,[45],none)]) Try_mix (by kernel_rfl) rfl (by kernel_rfl) (amF_cons (mono_V _) (amF_cons (mono_V _) (amF_cons (mono_V _) (amF_cons (mono_V _) (amF_cons (mono_V _) (amF_cons (mono_V _) (amF_cons (mono_exA fun _=>mono_V _) (amF_cons (mono_exA fun _=>mono_V _) (amF_cons (mono_any) (amF_cons (mono_any) amF_nil)))))))))) hst ?_ (fun f w_ H94 hS94 hE94 hT94 hst=>?_)
 refine opsS_cons (fun f w_ _ _ s _ _ hst=>mF ((s 0 rfl).trans ((hS62 0 rfl).trans sf0)) rfl (nO rfl rfl hst)) (opsS_cons (fun f w_ _ _ s _ _ hst=>mF ((s 0 rfl).trans ((hS62 0 rfl).trans sf0)) rfl (nO rfl rfl hst)) (opsS_cons (fun f w_ _ _ _ _ p hst=>L_nc rfl (p 1 37 rfl rfl) (nO rfl rfl hst)) (opsS_cons (fun f w_ _ _ _ _ p hst=>fA 2 fa_85_2 (p 2 38 rfl rfl) rfl (nO rfl rfl hst)) (opsS_cons (fun f w_ _ _ _ _ p hst=>ldB 0 hst Try.isAgg30 (p 3 39 rfl rfl) rfl rfl (nO rfl rfl hst)) (opsS_cons (fun f w_ _ _ s _ _ hst=>L_lda (cs:=[r46_0,I x34.1.bound]) rfl Try.isAgg43 Try.sizeOf43 ((s 7 rfl).trans ((hS62 7 rfl).trans rfl)) (At.sub0 (Blk.at (Star.blkAt 1 hst rfl)) 0 2) rfl (nO rfl rfl hst)) (opsS_cons ?_ ?_))))))
 intro f w_ H94 X94 hS94 hE94 hP94 hst
 obtain ⟨H108b,l109,s110,z111,k112⟩:=hst.borrow
 refine L_call rfl Try.call127 (ops1 (hP94 5 41 rfl rfl)) (i_Constraint_own_c (c:=x34.1) s110 (RP.mono _ hz53 (Le.trans (Le.trans hE62 hE94) l109)) hx83) ?_
 rintro _ w113 ⟨r113_0,rfl,hst⟩
 have hst:=k112 hst (co closed_term c0)
 have hst:=hst.gets [3,3,3] rfl
 exact L_nil ⟨rfl,_,_,rfl,Le.refl _,fun _ _=>⟨_,rfl⟩,hst⟩
 refine opsS_cons ?_ ?_
 intro f w_ H94 X94 hS94 hE94 hP94 hst
 have hst : Star H94 w_ (box g_0 85 #[(f_94 33),I s.fuel,v0_2,Bo s.much] :: box g48 43 #[r46_0,I x34.1.bound] :: oF 43 (rCon 112) (f_94 33) x57 :: own (OR.ownS 112 (OR.frz rTerm)) [(aggC (f 42) 0)] x83.terms :: X94):=hst
 obtain ⟨u115_0,hv115⟩:=(hP94 6 42 rfl rfl)
 have hren : Star H94 w_ (box g_0 85 #[(f_94 33),I s.fuel,v0_2,Bo s.much] :: box g48 43 #[r46_0,I x34.1.bound] :: oF 43 (rCon 112) (f_94 33) x57 :: own (OR.ownS 112 (OR.frz rTerm)) [(aggC (f 42) 0)] x83.terms :: X94):=hst
 rw [hv115] at hren
 have hst : Star H94 w_ (box g_0 85 #[(f_94 33),I s.fuel,v0_2,Bo s.much] :: box g48 43 #[r46_0,I x34.1.bound] :: oF 43 (rCon 112) (f_94 33) x57 :: oF 112 rTerm u115_0 x83.terms :: X94):=hren
 refine L_bld rfl (parts2 rfl hv115) (bld_93_0_3x2 (I 7) (u115_0) (I x83.bound) rfl) (L_nil ⟨rfl,_,_,rfl,Le.refl _,fun _ _=>⟨_,rfl⟩,hst⟩)
 refine opsS_cons ?_ ?_
 intro f w_ H94 X94 hS94 hE94 hP94 hst
 have hst : Star H94 w_ (box g_0 85 #[(f_94 33),I s.fuel,v0_2,Bo s.much] :: box g48 43 #[r46_0,I x34.1.bound] :: oF 43 (rCon 112) (f_94 33) x57 :: own (OR.ownS 112 (OR.frz rTerm)) [(aggC (f 43) 3)] x83.terms :: X94):=hst
 obtain ⟨u116_3,hv116⟩:=(hP94 7 43 rfl rfl)
 have hren : Star H94 w_ (box g_0 85 #[(f_94 33),I s.fuel,v0_2,Bo s.much] :: box g48 43 #[r46_0,I x34.1.bound] :: oF 43 (rCon 112) (f_94 33) x57 :: own (OR.ownS 112 (OR.frz rTerm)) [(aggC (f 43) 3)] x83.terms :: X94):=hst
 rw [hv116] at hren
 have hst : Star H94 w_ (box g_0 85 #[(f_94 33),I s.fuel,v0_2,Bo s.much] :: box g48 43 #[r46_0,I x34.1.bound] :: oF 43 (rCon 112) (f_94 33) x57 :: oF 112 rTerm u116_3 x83.terms :: X94):=hren
 refine L_bs rfl (parts1 hv116) (bs_30_1_5 (I 7) (I 0) (I 0) (u116_3) (I x83.bound) ) hst (fun g117 w118 hst=>?_)
 have hst:=hst.get 4 rfl
 have hst:=oStep_close (s:=({ kind:=7,a:=0,b:=0,given:=x83 } : Step)) hst
 have hst:=Star.mkRow (R:=(oStep 112)) [([I 7,I 0,I 0,u116_3,I x83.bound],({ kind:=7,a:=0,b:=0,given:=x83 } : Step))] [({ kind:=7,a:=0,b:=0,given:=x83 } : Step)] 1 hst rfl rfl rfl (by decide)
 have hst:=hst.gets [3,3,3] rfl
 exact L_nil ⟨rfl,_,_,rfl,Le.refl _,fun _ _=>trivial,hst⟩
 refine opsS_cons ?_ ?_
 intro f w_ H94 X94 hS94 hE94 hP94 hst
 have hst : Star H94 w_ (box g_0 85 #[(f_94 33),I s.fuel,v0_2,Bo s.much] :: box g48 43 #[r46_0,I x34.1.bound] :: oF 43 (rCon 112) (f_94 33) x57 :: oS 93 (oStep 112) v0_2 s.steps :: oS 93 (oStep 112) (f 44) ([({ kind:=7,a:=0,b:=0,given:=x83 } : Step)]) :: X94):=hst
 have hst:=hst.gets [4,4] rfl
 refine L_appM (v:=v0_2) (u:=(f 44)) rfl et_30 (hP94 4 40 rfl rfl) rfl hst hx89 (fun v121 w122 hst=>?_)
 have hst:=hst.gets [3,3,3] rfl
 exact L_nil ⟨rfl,_,_,rfl,Le.refl _,fun _ _=>trivial,hst⟩
 exact opsS_nil
 have hst : Star H94 w_ (box g_0 85 #[(f_94 33),I s.fuel,v0_2,Bo s.much] :: box g48 43 #[r46_0,I x34.1.bound] :: oF 43 (rCon 112) (f_94 33) x57 :: oS 93 (oStep 112) (f 45) x89 :: R):=hst
 refine L_nc rfl (hT94 0 36 rfl rfl) (fA 2 fa_85_2 rfl rfl (L_stB (v:=(f 45)) (cs2:=#[(f_94 33),I s.fuel,(f 45),Bo s.much]) 0 rfl Try.sizeOf30 rfl rfl (one_len (Star.len 3 hst rfl)) hst rfl rfl rfl (fun w125 hst=>nn (ret0 Try.results111 ?_))))
 obtain rfl:=so hF
 have hst:=hst.gets [3,3,2] rfl
 have hst:=Star.drop 3 hst rfl
 exact ⟨H94,(Le.trans (Le.trans l52 hE62) hE94),(f_94 33),(f 45),rfl,hst⟩
theorem i_searching_visit_F_c {fu : Nat} {rec_ : Srch→(List Int)→Option ((List Bool) × Bool × (List Con) × Int × (List Step) × Bool)} (hrec : ∀ {s : Srch} {decisions : List Int} {g_0 : Nat} {v0_0 : Value} {v0_2 : Value} {v1 : Value} {H : FH} {w : World} {R : List Ass} (hst : Star H w (box g_0 85 #[v0_0,I s.fuel,v0_2,Bo s.much] :: oF 43 (rCon 112) v0_0 s.list :: oS 93 (oStep 112) v0_2 s.steps :: R)) (h1 : (rS 3 RP.int).rel H [v1] decisions) {r : (List Bool) × Bool × (List Con) × Int × (List Step) × Bool} (hF : rec_ s decisions = some r),C Try.prog 67 #[Pt g_0,v1] w fun v w'=>∃ H' : FH,Le H H'∧∃ (u1 : Value) (u2 : Value) (u3 : Value),v = .tuple #[u1,Bo r.2.1]∧Star H' w' (oF 4 RP.bool u1 r.1 :: box g_0 85 #[u2,I r.2.2.2.1,u3,Bo r.2.2.2.2.2] :: oF 43 (rCon 112) u2 r.2.2.1 :: oS 93 (oStep 112) u3 r.2.2.2.2.1 :: R)) {s : Srch} {decisions : List Int} {g_0 : Nat} {v0_0 : Value} {v0_2 : Value} {v1 : Value} {H : FH} {w : World} {R : List Ass} (hst : Star H w (box g_0 85 #[v0_0,I s.fuel,v0_2,Bo s.much] :: oF 43 (rCon 112) v0_0 s.list :: oS 93 (oStep 112) v0_2 s.steps :: R)) (h1 : (rS 3 RP.int).rel H [v1] decisions) {r : (List Bool) × Bool × (List Con) × Int × (List Step) × Bool} (hF : i_searching_visit_F fu rec_ s decisions = some r) :
 C Try.prog 67 #[Pt g_0,v1] w fun v w'=>∃ H' : FH,Le H H'∧∃ (u1 : Value) (u2 : Value) (u3 : Value),v = .tuple #[u1,Bo r.2.1]∧Star H' w' (oF 4 RP.bool u1 r.1 :: box g_0 85 #[u2,I r.2.2.2.1,u3,Bo r.2.2.2.2.2] :: oF 43 (rCon 112) u2 r.2.2.1 :: oS 93 (oStep 112) u3 r.2.2.2.2.1 :: R):=by
 unfold i_searching_visit_F at hF
 refine C_enter Try.func67 rfl Try.ntmps67 rfl (sq (aV S0 rfl (aB rfl (nq (W_seq ?_)))))
 obtain ⟨R1,hR1⟩:=exR fun f w_=>f 0 = Pt g_0∧f 1 = v1∧f 29 = Bo ((s.fuel == 0) || (decide ((s.steps.length : Int) ≥ 1000)))∧Star H w_ (oF 43 (rCon 112) v0_0 s.list :: oS 93 (oStep 112) v0_2 s.steps :: box g_0 85 #[v0_0,I s.fuel,v0_2,Bo s.much] :: R)
 refine W_join R1 ?_ ?_
 refine W_region (mV (Pt g_0) rfl (L_nc rfl rfl (fA 1 fa_85_1 rfl rfl (ldB 0 hst Try.isAgg3 rfl rfl rfl (L_eql rfl rfl rfl (mB rfl (L_split (d:=22) (b:=(s.fuel == 0)) rfl (fun hc2=>?_) (fun hc2=>?_))))))))
 refine ps rfl (ps rfl (ps rfl (ps rfl (ps rfl (ps rfl (L_pick (v:=Bo ((s.fuel == 0) || (decide ((s.steps.length : Int) ≥ 1000)))) rfl rfl (or_t hc2) (nn ?_)))))))
 have hst:=hst.gets [2,2] rfl
 exact rj hR1 ⟨rfl,rfl,rfl,hst⟩
 refine mV (Pt g_0) rfl (L_nc rfl rfl (fA 2 fa_85_2 rfl rfl (ldB 0 hst Try.isAgg30 rfl rfl rfl (L_len rfl Try.underlying30 rfl (Star.len 2 hst rfl) (L_geq rfl rfl rfl (L_pick (v:=Bo ((s.fuel == 0) || (decide ((s.steps.length : Int) ≥ 1000)))) rfl rfl (or_f hc2 rfl) (nn ?_)))))))
 have hst:=hst.gets [2,2] rfl
 exact rj hR1 ⟨rfl,rfl,rfl,hst⟩
 intro f w_ hR
 obtain ⟨sf0,sf1,sf29,hst⟩:=rk hR1 hR
 refine W_cond (b:=((s.fuel == 0) || (decide ((s.steps.length : Int) ≥ 1000)))) sf29 (fun hc3=>?_) (fun hc3=>?_)
 have hF:=(ite_t hc3).symm.trans hF
 refine sq (mF sf0 rfl (L_nc rfl rfl (fA 3 fa_85_3 rfl rfl (L_stB (v:=Bo true) (cs2:=#[v0_0,I s.fuel,v0_2,Bo true]) 2 rfl Try.sizeOf4 rfl rfl rfl hst rfl rfl rfl (fun w5 hst=>ns (aV S0 rfl (aB rfl (nn (W_ret (retG2 (v1:=S0) (v2:=Bo false) Try.results67 rfl rfl ?_))))))))))
 obtain rfl:=so hF
 have hst:=Star.addNil (R:=(OR.frz RP.bool)) (e:=4) hst
 exact ⟨H,(Le.refl _),S0,v0_0,v0_2,rfl,hst⟩
 have hF:=(ite_f hc3).symm.trans hF
 refine W_skip (sq (mF sf0 rfl (L_nc rfl rfl (fA 1 fa_85_1 rfl rfl (ldB 2 hst Try.isAgg3 rfl rfl rfl (L_sub rfl rfl rfl (L_nc rfl rfl (fA 1 fa_85_1 rfl rfl (L_stB (v:=I (i64 (s.fuel - 1))) (cs2:=#[v0_0,I (i64 (s.fuel - 1)),v0_2,Bo s.much]) 2 rfl Try.sizeOf3 rfl rfl rfl hst rfl rfl rfl (fun w8 hst=>nq ?_))))))))))
 obtain ⟨x9,hx9,hF⟩:=bind_some hF
 refine W_region (L_mk (R:=(OR.frz RP.int)) (z0:=0) (zc:=[I 0]) rfl et_65 (by kernel_rfl) (fun _ _=>⟨rfl,rfl⟩) rfl rfl hx9 hst (fun v13 w14 hst=>aV v13 rfl (nq (sq (mF sf1 rfl (L_len rfl Try.underlying65 rfl (slice_len h1) (mI rfl (nn ?_))))))))
 have hlen18 : List.length decisions≤9223372036854775807:=len_le (slice_len h1)
 obtain ⟨j18,hL18,hF⟩:=bind_some hF
 obtain ⟨R18,hR18⟩:=exR fun f w_=>∃ p_17 : List Int,j18 = .nx p_17∧f 0 = Pt g_0∧f 1 = v1∧f 6 = v13∧Star H w_ (oF 3 RP.int v13 p_17 :: oF 43 (rCon 112) v0_0 s.list :: oS 93 (oStep 112) v0_2 s.steps :: box g_0 85 #[v0_0,I (i64 (s.fuel - 1)),v0_2,Bo s.much] :: R)
 refine W_join R18 ?_ ?_
 refine W_block ?_
 obtain ⟨I18,hI18⟩:=exI fun n f w_=>∃ i_16 : Nat,∃ suf18 : List Int,∃ p_17 : List Int,n = suf18.length∧List.drop i_16 decisions = suf18∧i_16 + suf18.length = decisions.length∧rangeL i_searching_visit_b1 suf18 i_16 p_17 = some j18∧f 0 = Pt g_0∧f 1 = v1∧f 6 = v13∧f 41 = v1∧f 42 = I (decisions.length : Int)∧f 43 = I i_16∧Star H w_ (oF 3 RP.int v13 p_17 :: oF 43 (rCon 112) v0_0 s.list :: oS 93 (oStep 112) v0_2 s.steps :: box g_0 85 #[v0_0,I (i64 (s.fuel - 1)),v0_2,Bo s.much] :: R)
 have hst:=hst.gets [1,3,3,3] rfl
 refine W_loop I18 (n:=decisions.length) ?_ ?_
 exact ij hI18 ⟨0,decisions,x9,rfl,rfl,Nat.zero_add _,hL18,sf0,sf1,rfl,rfl,rfl,rfl,hst⟩
 intro n18 f w_ hI
 obtain ⟨i_16,suf18,p_17,rfl,hd18,hl18,hL18,sf0,sf1,sf6,sf41,sf42,sf43,hst⟩:=ik hI18 hI
 refine sq (L_lss rfl sf43 sf42 (nq (W_cond (b:=decide ((i_16 : Int) < (decisions.length : Int))) rfl (fun hc19=>?_) (fun hc19=>?_))))
 have hlt18:=of_decide_eq_true hc19
 rcases suf18 with _ | ⟨x_18,rest18⟩
 exact absurd hlt18 (by simp at hl18; omega)
 obtain ⟨o18,hB18,hL18⟩:=range_cons hL18
 rw [i_searching_visit_b1] at hB18
 have hix18:=drop_idx hd18
 refine W_skip (W_seq (W_block (sq (L_ix (r:=RP.int) rfl Try.underlying65 Try.sizeOf3 sf41 h1 sf43 hix18 (fun g24 o25 cs_g24 hrk_hat26 hat26=>?_)))))
 obtain rfl : _ = [_]:=hrk_hat26
 refine L_ld rfl Try.isAgg3 rfl (At.cell (AtH.at hat26 hst.sub) (j:=0) rfl) (aI rfl (nq ?_))
 obtain ⟨x33,hx33,hB18⟩:=bind_some hB18
 obtain ⟨x35,hx35,hB18⟩:=bind_some hB18
 refine W_region (mF sf6 rfl (mI rfl ?_))
 obtain ⟨H39b,l40,s41,z42,k43⟩:=hst.borrow
 refine L_call rfl Try.call93 (ops1 rfl) (i_variableOf_c (l:=x_18) s41 hx33) ?_
 rintro _ w44 ⟨rfl,hst⟩
 have hst:=k43 hst c0
 refine L_sub rfl rfl rfl ?_
 obtain ⟨g45,cap_g45,hv46,_,_⟩:=Star.row 0 hst rfl hx35
 refine L_ixO (R:=(OR.frz RP.int)) (tb:=0) 0 rfl Try.underlying65 Try.sizeOf3 rfl hv46 (by first | rfl | simp) rfl hx35 ?_
 have hst:=Star.addF (r:=RP.int) (cs:=[I 1]) (x:=1) hst rfl
 refine L_stE1 (u:=I 1) rfl Try.sizeOf3 rfl rfl rfl hv46 hst hx35 (fun w47 hst=>?_)
 refine ns (mI rfl (L_lss rfl rfl rfl (nn ?_)))
 obtain ⟨p_48,hA49,hB18⟩:=bind_some hB18
 obtain ⟨R49,hR49⟩:=exR fun f w_=>f 0 = Pt g_0∧f 1 = v1∧f 6 = v13∧f 41 = v1∧f 42 = I (decisions.length : Int)∧f 43 = I i_16∧Star H w_ (oF 3 RP.int v13 p_48 :: oF 43 (rCon 112) v0_0 s.list :: oS 93 (oStep 112) v0_2 s.steps :: box g_0 85 #[v0_0,I (i64 (s.fuel - 1)),v0_2,Bo s.much] :: R)
 refine W_join R49 ?_ ?_
 refine W_cond (b:=decide (x_18 < 0)) rfl (fun hc50=>?_) (fun hc50=>?_)
 have hA49:=(ite_t hc50).symm.trans hA49
 obtain ⟨x51,hx51,hA49⟩:=bind_some hA49
 refine W_region (mF sf6 rfl (mI rfl (L_neg rfl rfl (L_sub rfl rfl rfl (L_ixO (R:=(OR.frz RP.int)) (tb:=0) 0 rfl Try.underlying65 Try.sizeOf3 rfl hv46 (by first | rfl | simp) rfl hx51 ?_)))))
 have hst:=Star.addF (r:=RP.int) (cs:=[I (-1)]) (x:=(-1)) hst rfl
 refine L_stE1 (u:=I (-1)) rfl Try.sizeOf3 rfl rfl rfl hv46 hst hx51 (fun w53 hst=>?_)
 refine nn ?_
 obtain rfl:=so hA49
 exact rj hR49 ⟨sf0,sf1,sf6,sf41,sf42,sf43,hst⟩
 have hA49:=(ite_f hc50).symm.trans hA49
 refine W_skip ?_
 obtain rfl:=so hA49
 exact rj hR49 ⟨sf0,sf1,sf6,sf41,sf42,sf43,hst⟩
 intro f w_ hR
 obtain ⟨sf0,sf1,sf6,sf41,sf42,sf43,hst⟩:=rk hR49 hR
 refine W_region (L_add rfl sf43 rfl (mI rfl (nn ?_)))
 obtain rfl:=so hB18
 show ∃ m,m < _∧I18 m _ _
 refine ⟨rest18.length,by simp,?_⟩
 exact ij hI18 ⟨i_16 + 1,rest18,p_48,rfl,drop_next hd18,by simp at hl18; omega,hL18,sf0,sf1,sf6,sf41,sf42,(Eq.trans rfl (congrArg (Value.int .i64) (i64_succ (n:=decisions.length) (by simp at hl18; omega) hlen18))),hst⟩
 rcases suf18 with _ | ⟨_,_⟩
 obtain rfl:=range_nil hL18
 refine W_exit (rj hR18 ⟨p_17,rfl,sf0,sf1,sf6,hst⟩)
 exact absurd (of_decide_eq_false hc19) (by simp at hl18; omega)
 intro f w_ hR
 obtain ⟨p_17,rfl,sf0,sf1,sf6,hst⟩:=rk hR18 hR
 refine W_seq ?_
 obtain ⟨x61,hx61,hF⟩:=bind_some hF
 refine W_region (mF sf0 rfl (L_nc rfl rfl (fA 0 fa_85_0 rfl rfl (ldB 3 hst Try.isAgg23 rfl rfl rfl (mF sf6 rfl ?_)))))
 obtain ⟨H64b,l65,s66,z67,k68⟩:=hst.borrow
 have hb69 : (rS 43 (rCon 112)).rel H64b [v0_0] s.list:=fz_own 1 z67 rfl
 have hb70 : (rS 3 RP.int).rel H64b [v13] p_17:=fz_own 0 z67 rfl
 refine L_call rfl Try.call109 (ops2 rfl rfl) (i_propagate_c (list:=s.list) (p:=p_17) s66 hb69 hb70 hx61) ?_
 rintro _ w71 ⟨r71_0,rfl,hst⟩
 have hst:=k68 hst (co closed_int c0)
 refine mV (.tuple #[r71_0,I x61.2]) rfl (L_ex (v:=r71_0) rfl rfl rfl (L_ex (v:=I x61.2) rfl rfl rfl (aV r71_0 rfl (aI rfl (nq (sq (mI rfl (L_lss rfl rfl rfl (nn ?_)))))))))
 obtain ⟨j81,hA81,hF⟩:=bind_some hF
 obtain ⟨R81,hR81⟩:=exR fun f w_=>∃ g_0_0_73 : List Con,∃ g_0_1_75 : Int,∃ g_0_2_76 : List Step,∃ g_0_3_78 : Bool,∃ H79 : FH,∃ v73_g_0_0 v76_g_0_2 : Value,j81 = .nx (g_0_0_73,g_0_1_75,g_0_2_76,g_0_3_78)∧Le H H79∧f 0 = Pt g_0∧f 1 = v1∧Star H79 w_ (oF 43 (rCon 112) v73_g_0_0 g_0_0_73 :: oS 93 (oStep 112) v76_g_0_2 g_0_2_76 :: box g_0 85 #[v73_g_0_0,I g_0_1_75,v76_g_0_2,Bo g_0_3_78] :: R)
 refine W_join R81 ?_ ?_
 refine W_cond (b:=decide (x61.2 < 0)) rfl (fun hc82=>?_) (fun hc82=>?_)
 have hA81:=(ite_t hc82).symm.trans hA81
 refine W_seq ?_
 obtain ⟨x89,hx89,hA81⟩:=bind_some hA81
 refine W_region (mV r71_0 rfl ?_)
 obtain ⟨H92b,l93,s94,z95,k96⟩:=hst.borrow
 have hb97 : (rS 3 RP.int).rel H92b [r71_0] x61.1:=fz_own 0 z95 rfl
 refine L_call rfl Try.call110 (ops1 rfl) (i_valuesOf_c (p:=x61.1) s94 hb97 hx89) ?_
 rintro _ w98 ⟨r98_0,rfl,hst⟩
 have hst:=k96 hst (co closed_bool c0)
 refine mV (.tuple #[r98_0,I x89.2.1,Bo x89.2.2]) rfl (L_ex (v:=r98_0) rfl rfl rfl (L_ex (v:=I x89.2.1) rfl rfl rfl (L_ex (v:=Bo x89.2.2) rfl rfl rfl (aV r98_0 rfl (aI rfl (aB rfl (nq (sq (mB rfl (nn (W_cond (b:=x89.2.2) rfl (fun hc100=>?_) (fun hc100=>?_))))))))))))
 have hA81:=(ite_t hc100).symm.trans hA81
 refine sq (mV r98_0 rfl (aV r98_0 rfl (aB rfl (nn (W_ret (retG2 (v1:=r98_0) (v2:=Bo true) Try.results67 rfl rfl ?_))))))
 obtain rfl:=so hA81
 obtain rfl:=so hF
 have hst:=hst.gets [4,4,5,3] rfl
 have hst:=Star.drop 4 hst rfl
 have hst:=Star.drop 4 hst rfl
 exact ⟨H,(Le.refl _),r98_0,v0_0,v0_2,rfl,hst⟩
 have hA81:=(ite_f hc100).symm.trans hA81
 refine W_skip (W_seq (sq (mI rfl (mI rfl (L_neg rfl rfl (L_bs rfl (parts2 rfl rfl) (bs_65_2_0_0 (I x89.2.1) (I (i64 (-x89.2.1))) rfl rfl) hst (fun g104 w105 hst=>?_)))))))
 have hst:=Star.addF (r:=RP.int) (cs:=[I (i64 (-x89.2.1))]) (x:=(i64 (-x89.2.1))) hst rfl
 have hst:=Star.addF (r:=RP.int) (cs:=[I x89.2.1]) (x:=x89.2.1) hst rfl
 have hst:=Star.mkRow (R:=(OR.frz RP.int)) [([I x89.2.1],x89.2.1),([I (i64 (-x89.2.1))],i64 (-x89.2.1))] [x89.2.1,i64 (-x89.2.1)] 2 hst rfl rfl rfl (by decide)
 refine L_len rfl Try.underlying65 rfl (Star.len 0 hst rfl) (mI rfl (nn ?_))
 have hlen116 : List.length ([x89.2.1,i64 (-x89.2.1)])≤9223372036854775807:=len_le (Star.len 0 hst rfl)
 obtain ⟨j116,hL116,hA81⟩:=bind_some hA81
 obtain ⟨R116,hR116⟩:=exR fun f w_=>∃ g_0_0_108 : List Con,∃ g_0_1_110 : Int,∃ g_0_2_111 : List Step,∃ g_0_3_113 : Bool,∃ H114 : FH,∃ v108_g_0_0 v111_g_0_2 : Value,j116 = .nx (g_0_0_108,g_0_1_110,g_0_2_111,g_0_3_113)∧Le H H114∧f 0 = Pt g_0∧f 1 = v1∧Star H114 w_ (oF 43 (rCon 112) v108_g_0_0 g_0_0_108 :: oS 93 (oStep 112) v111_g_0_2 g_0_2_111 :: box g_0 85 #[v108_g_0_0,I g_0_1_110,v111_g_0_2,Bo g_0_3_113] :: R)
 refine W_join R116 ?_ ?_
 refine W_block ?_
 obtain ⟨I116,hI116⟩:=exI fun n f w_=>∃ i_107 : Nat,∃ suf116 : List Int,∃ g_0_0_108 : List Con,∃ g_0_1_110 : Int,∃ g_0_2_111 : List Step,∃ g_0_3_113 : Bool,∃ H114 : FH,∃ v108_g_0_0 v111_g_0_2 : Value,n = suf116.length∧List.drop i_107 ([x89.2.1,i64 (-x89.2.1)]) = suf116∧i_107 + suf116.length = ([x89.2.1,i64 (-x89.2.1)]).length∧rangeL (i_searching_visit_b2 decisions rec_) suf116 i_107 (g_0_0_108,g_0_1_110,g_0_2_111,g_0_3_113) = some j116∧Le H H114∧f 0 = Pt g_0∧f 1 = v1∧f 82 = (Sl g104 2 2)∧f 83 = I (([x89.2.1,i64 (-x89.2.1)]).length : Int)∧f 84 = I i_107∧Star H114 w_ (oF 3 RP.int (Sl g104 2 2) ([x89.2.1,i64 (-x89.2.1)]) :: oF 43 (rCon 112) v108_g_0_0 g_0_0_108 :: oS 93 (oStep 112) v111_g_0_2 g_0_2_111 :: box g_0 85 #[v108_g_0_0,I g_0_1_110,v111_g_0_2,Bo g_0_3_113] :: R)
 have hst:=hst.gets [6,6,6,3] rfl
 have hst:=Star.drop 4 hst rfl
 have hst:=Star.drop 4 hst rfl
 have hst:=Star.drop 4 hst rfl
 refine W_loop I116 (n:=([x89.2.1,i64 (-x89.2.1)]).length) ?_ ?_
 exact ij hI116 ⟨0,[x89.2.1,i64 (-x89.2.1)],s.list,i64 (s.fuel - 1),s.steps,s.much,H,v0_0,v0_2,rfl,rfl,Nat.zero_add _,hL116,(Le.refl _),sf0,sf1,rfl,rfl,rfl,hst⟩
 intro n116 f w_ hI
 obtain ⟨i_107,suf116,g_0_0_108,g_0_1_110,g_0_2_111,g_0_3_113,H114,v108_g_0_0,v111_g_0_2,rfl,hd116,hl116,hL116,l115,sf0,sf1,sf82,sf83,sf84,hst⟩:=ik hI116 hI
 refine sq (L_lss rfl sf84 sf83 (nq (W_cond (b:=decide ((i_107 : Int) < (([x89.2.1,i64 (-x89.2.1)]).length : Int))) rfl (fun hc117=>?_) (fun hc117=>?_))))
 have hlt116:=of_decide_eq_true hc117
 rcases suf116 with _ | ⟨x_116,rest116⟩
 exact absurd hlt116 (by simp only [List.length_cons,List.length_nil] at *; omega)
 obtain ⟨o116,hB116,hL116⟩:=range_cons hL116
 rw [i_searching_visit_b2] at hB116
 have hix116:=drop_idx hd116
 refine W_skip (W_seq (W_block (sq (L_ixO (R:=(OR.frz RP.int)) (tb:=0) (g:=g104) 0 rfl Try.underlying65 Try.sizeOf3 sf82 rfl (by first | rfl | simp) sf84 hix116 ?_))))
 obtain ⟨cs120,hr120,hat120⟩:=Star.eltF 0 hst rfl rfl hix116
 obtain rfl : _ = [_]:=hr120
 refine L_ld rfl Try.isAgg3 rfl (At.cell hat120 (j:=0) rfl) (aI rfl (nq ?_))
 obtain ⟨x127,hx127,hB116⟩:=bind_some hB116
 obtain ⟨x133,hx133,hB116⟩:=bind_some hB116
 obtain ⟨x140,hx140,hB116⟩:=bind_some hB116
 refine W_region (mF sf0 rfl (mF sf1 rfl ?_))
 obtain ⟨H145b,l146,s147,z148,k149⟩:=hst.borrow
 refine L_call rfl Try.call90 (ops1 rfl) (slices_Clone_int_c (s:=decisions) s147 (RP.mono _ h1 (Le.trans l115 l146)) hx127) ?_
 rintro r150_0 w150 ⟨_,rfl,hst⟩
 have hst:=k149 hst (co closed_int c0)
 refine mI rfl (L_bs rfl (parts1 rfl) (bs_65_1_0 (I x_116) rfl) hst (fun g152 w153 hst=>?_))
 have hst:=Star.addF (r:=RP.int) (cs:=[I x_116]) (x:=x_116) hst rfl
 have hst:=Star.mkRow (R:=(OR.frz RP.int)) [([I x_116],x_116)] [x_116] 1 hst rfl rfl rfl (by decide)
 have hst:=hst.get 1 rfl
 refine L_appM (v:=r150_0) (u:=(Sl g152 1 1)) rfl et_65 rfl rfl hst hx133 (fun v155 w156 hst=>?_)
 obtain ⟨H158,l159,hst,hz160⟩:=Star.freeze hst
 have hz160 : (rS 3 RP.int).rel H158 [v155] x133:=hz160
 have hst:=hst.gets [2,2,3] rfl
 refine L_call rfl Try.call67 (ops2 rfl rfl) (hrec (s:=({ list:=g_0_0_108,fuel:=g_0_1_110,steps:=g_0_2_111,much:=g_0_3_113 } : Srch)) (decisions:=x133) hst hz160 hx140) ?_
 rintro _ w161 ⟨H161,l161,r161_0,r161_1,r161_2,rfl,hst⟩
 refine mV (.tuple #[r161_0,Bo x140.2.1]) rfl (L_ex (v:=r161_0) rfl rfl rfl (L_ex (v:=Bo x140.2.1) rfl rfl rfl (aV r161_0 rfl (aB rfl (nq ?_)))))
 obtain ⟨R165,hR165⟩:=exR fun f w_=>f 0 = Pt g_0∧f 1 = v1∧f 15 = r161_0∧f 16 = Bo x140.2.1∧f 82 = (Sl g104 2 2)∧f 83 = I (([x89.2.1,i64 (-x89.2.1)]).length : Int)∧f 84 = I i_107∧f 104 = Bo (x140.2.1 || x140.2.2.2.2.2)∧Star H161 w_ (oF 4 RP.bool r161_0 x140.1 :: oF 3 RP.int (Sl g104 2 2) ([x89.2.1,i64 (-x89.2.1)]) :: oF 43 (rCon 112) r161_1 x140.2.2.1 :: oS 93 (oStep 112) r161_2 x140.2.2.2.2.1 :: box g_0 85 #[r161_1,I x140.2.2.2.1,r161_2,Bo x140.2.2.2.2.2] :: R)
 refine W_join R165 ?_ ?_
 refine W_region (mB rfl (mB rfl (L_split (d:=99) (b:=x140.2.1) rfl (fun hc166=>?_) (fun hc166=>?_))))
 refine ps rfl (ps rfl (ps rfl (ps rfl (L_pick (v:=Bo (x140.2.1 || x140.2.2.2.2.2)) rfl rfl (or_t hc166) (nn ?_)))))
 have hst:=hst.gets [1,3,3,4,4] rfl
 exact rj hR165 ⟨sf0,sf1,rfl,rfl,sf82,sf83,sf84,rfl,hst⟩
 refine mF sf0 rfl (L_nc rfl rfl (fA 3 fa_85_3 rfl rfl (ldB 1 hst Try.isAgg4 rfl rfl rfl (L_pick (v:=Bo (x140.2.1 || x140.2.2.2.2.2)) rfl rfl (or_f hc166 rfl) (nn ?_)))))
 have hst:=hst.gets [1,3,3,4,4] rfl
 exact rj hR165 ⟨sf0,sf1,rfl,rfl,sf82,sf83,sf84,rfl,hst⟩
 intro f w_ hR
 obtain ⟨sf0,sf1,sf15,sf16,sf82,sf83,sf84,sf104,hst⟩:=rk hR165 hR
 refine W_cond (b:=(x140.2.1 || x140.2.2.2.2.2)) sf104 (fun hc167=>?_) (fun hc167=>?_)
 have hB116:=(ite_t hc167).symm.trans hB116
 refine sq (mF sf15 rfl (mF sf16 rfl (aV r161_0 rfl (aB rfl (nn (W_ret (retG2 (v1:=r161_0) (v2:=Bo x140.2.1) Try.results67 rfl rfl ?_)))))))
 obtain rfl:=so hB116
 obtain rfl:=so hL116
 obtain rfl:=so hA81
 obtain rfl:=so hF
 have hst:=hst.gets [3,3,4,3] rfl
 have hst:=Star.drop 4 hst rfl
 exact ⟨H161,(Le.trans (Le.trans l115 l159) l161),r161_0,r161_1,r161_2,rfl,hst⟩
 have hB116:=(ite_f hc167).symm.trans hB116
 refine W_skip (W_region (L_add rfl sf84 rfl (mI rfl (nn ?_))))
 obtain rfl:=so hB116
 have hst:=hst.gets [4,4,4,4] rfl
 have hst:=Star.drop 4 hst rfl
 show ∃ m,m < _∧I116 m _ _
 refine ⟨rest116.length,by simp,?_⟩
 exact ij hI116 ⟨i_107 + 1,rest116,x140.2.2.1,x140.2.2.2.1,x140.2.2.2.2.1,x140.2.2.2.2.2,H161,r161_1,r161_2,rfl,drop_next hd116,by simp only [List.length_cons,List.length_nil] at *; omega,hL116,(Le.trans (Le.trans l115 l159) l161),sf0,sf1,sf82,sf83,(Eq.trans rfl (congrArg (Value.int .i64) (i64_succ (n:=([x89.2.1,i64 (-x89.2.1)]).length) (by simp only [List.length_cons,List.length_nil] at *; omega) hlen116))),hst⟩
 rcases suf116 with _ | ⟨_,_⟩
 obtain rfl:=range_nil hL116
 refine W_exit ?_
 have hst:=hst.gets [3,3,3] rfl
 have hst:=Star.drop 3 hst rfl
 exact rj hR116 ⟨g_0_0_108,g_0_1_110,g_0_2_111,g_0_3_113,H114,v108_g_0_0,v111_g_0_2,rfl,l115,sf0,sf1,hst⟩
 exact absurd (of_decide_eq_false hc117) (by simp only [List.length_cons,List.length_nil] at *; omega)
 intro f w_ hR
 obtain ⟨g_0_0_108,g_0_1_110,g_0_2_111,g_0_3_113,H114,v108_g_0_0,v111_g_0_2,rfl,l115,sf0,sf1,hst⟩:=rk hR116 hR
 refine sq (mF sf0 rfl (L_nc rfl rfl (fA 2 fa_85_2 rfl rfl (ldB 2 hst Try.isAgg30 rfl rfl rfl (L_len rfl Try.underlying30 rfl (Star.len 1 hst rfl) (L_geq rfl rfl rfl (nn (W_cond (b:=decide ((g_0_2_111.length : Int) ≥ 1000)) rfl (fun hc168=>?_) (fun hc168=>?_)))))))))
 have hA81:=(ite_t hc168).symm.trans hA81
 refine sq (mF sf0 rfl (L_nc rfl rfl (fA 3 fa_85_3 rfl rfl (L_stB (v:=Bo true) (cs2:=#[v108_g_0_0,I g_0_1_110,v111_g_0_2,Bo true]) 2 rfl Try.sizeOf4 rfl rfl rfl hst rfl rfl rfl (fun w170 hst=>ns (aV S0 rfl (aB rfl (nn (W_ret (retG2 (v1:=S0) (v2:=Bo false) Try.results67 rfl rfl ?_))))))))))
 obtain rfl:=so hA81
 obtain rfl:=so hF
 have hst:=Star.addNil (R:=(OR.frz RP.bool)) (e:=4) hst
 exact ⟨H114,l115,S0,v108_g_0_0,v111_g_0_2,rfl,hst⟩
 have hA81:=(ite_f hc168).symm.trans hA81
 refine W_skip ?_
 obtain rfl:=so hA81
 exact rj hR81 ⟨g_0_0_108,g_0_1_110,g_0_2_111,g_0_3_113,H114,v108_g_0_0,v111_g_0_2,rfl,l115,sf0,sf1,hst⟩
 have hA81:=(ite_f hc82).symm.trans hA81
 refine W_skip ?_
 obtain rfl:=so hA81
 have hst:=hst.gets [4,4,4] rfl
 have hst:=Star.drop 3 hst rfl
 have hst:=Star.drop 3 hst rfl
 exact rj hR81 ⟨s.list,i64 (s.fuel - 1),s.steps,s.much,H,v0_0,v0_2,rfl,(Le.refl _),sf0,sf1,hst⟩
 intro f w_ hR
 obtain ⟨g_0_0_73,g_0_1_75,g_0_2_76,g_0_3_78,H79,v73_g_0_0,v76_g_0_2,rfl,l80,sf0,sf1,hst⟩:=rk hR81 hR
 refine W_seq ?_
 obtain ⟨x172,hx172,hF⟩:=bind_some hF
 refine W_region (mF sf0 rfl (mF sf1 rfl ?_))
 have hst:=hst.gets [1,1,2] rfl
 refine L_call rfl Try.call111 (ops2 rfl rfl) (i_searching_fail_c (s:=({ list:=g_0_0_73,fuel:=g_0_1_75,steps:=g_0_2_76,much:=g_0_3_78 } : Srch)) (decisions:=decisions) hst (RP.mono _ h1 l80) hx172) ?_
 rintro _ w176 ⟨H176,l176,r176_0,r176_1,rfl,hst⟩
 refine ns (aV S0 rfl (aB rfl (nn (W_ret (retG2 (v1:=S0) (v2:=Bo false) Try.results67 rfl rfl ?_)))))
 obtain rfl:=so hF
 have hst:=Star.addNil (R:=(OR.frz RP.bool)) (e:=4) hst
 exact ⟨H176,(Le.trans l80 l176),S0,r176_0,r176_1,rfl,hst⟩
theorem i_searching_visit_R_c {fu : Nat} : ∀ (n : Nat) {s : Srch} {decisions : List Int} {g_0 : Nat} {v0_0 : Value} {v0_2 : Value} {v1 : Value} {H : FH} {w : World} {R : List Ass} (hst : Star H w (box g_0 85 #[v0_0,I s.fuel,v0_2,Bo s.much] :: oF 43 (rCon 112) v0_0 s.list :: oS 93 (oStep 112) v0_2 s.steps :: R)) (h1 : (rS 3 RP.int).rel H [v1] decisions) {r : (List Bool) × Bool × (List Con) × Int × (List Step) × Bool} (hF : i_searching_visit_R fu n s decisions = some r),C Try.prog 67 #[Pt g_0,v1] w fun v w'=>∃ H' : FH,Le H H'∧∃ (u1 : Value) (u2 : Value) (u3 : Value),v = .tuple #[u1,Bo r.2.1]∧Star H' w' (oF 4 RP.bool u1 r.1 :: box g_0 85 #[u2,I r.2.2.2.1,u3,Bo r.2.2.2.2.2] :: oF 43 (rCon 112) u2 r.2.2.1 :: oS 93 (oStep 112) u3 r.2.2.2.2.1 :: R):=by
 intro n
 induction n with
 | zero=>intros; rename_i hF; cases hF
 | succ n ih=>intros; rename_i hst h1 _ hF; exact i_searching_visit_F_c ih hst h1 hF
theorem i_searching_visit_c {fu : Nat} {s : Srch} {decisions : List Int} {g_0 : Nat} {v0_0 : Value} {v0_2 : Value} {v1 : Value} {H : FH} {w : World} {R : List Ass} (hst : Star H w (box g_0 85 #[v0_0,I s.fuel,v0_2,Bo s.much] :: oF 43 (rCon 112) v0_0 s.list :: oS 93 (oStep 112) v0_2 s.steps :: R)) (h1 : (rS 3 RP.int).rel H [v1] decisions) {r : (List Bool) × Bool × (List Con) × Int × (List Step) × Bool} (hF : i_searching_visit fu s decisions = some r) :
 C Try.prog 67 #[Pt g_0,v1] w fun v w'=>∃ H' : FH,Le H H'∧∃ (u1 : Value) (u2 : Value) (u3 : Value),v = .tuple #[u1,Bo r.2.1]∧Star H' w' (oF 4 RP.bool u1 r.1 :: box g_0 85 #[u2,I r.2.2.2.1,u3,Bo r.2.2.2.2.2] :: oF 43 (rCon 112) u2 r.2.2.1 :: oS 93 (oStep 112) u3 r.2.2.2.2.1 :: R):=i_searching_visit_R_c fu hst h1 hF
theorem i_SolveProblem_c {fu : Nat} {list : List Con} {fuel : Int} {v0 : Value} {H : FH} {w : World} (hst : Star H w []) (h0 : (rS 43 (rCon 112)).rel H [v0] list) {r : Int × (List Bool) × (List Step)} (hF : i_SolveProblem fu list fuel = some r) :
 C Try.prog 17 #[v0,I fuel] w fun v w'=>∃ (u1 : Value) (u2 : Value),v = .tuple #[I r.1,u1,u2]∧Star H w' [oF 4 RP.bool u1 r.2.1,oS 93 (oStep 112) u2 r.2.2]:=by
 unfold i_SolveProblem at hF
 refine C_enter Try.func17 rfl Try.ntmps17 rfl (sq (aI rfl (aV S0 rfl (aV S0 rfl (nq (W_seq ?_))))))
 obtain ⟨x6,hx6,hF⟩:=bind_some hF
 obtain ⟨b15,hb15,hF⟩:=bind_some hF
 obtain ⟨R16,hR16⟩:=exR fun f w_=>f 0 = v0∧f 1 = I fuel∧f 17 = Bo b15∧Star H w_ ([])
 refine W_join R16 ?_ ?_
 refine W_region (mV v0 rfl ?_)
 obtain ⟨H17b,l18,s19,z20,k21⟩:=hst.borrow
 refine L_call rfl Try.call58 (ops1 rfl) (i_ProblemValid_c (list:=list) s19 (RP.mono _ h0 l18) hx6) ?_
 rintro _ w22 ⟨rfl,hst⟩
 have hst:=k21 hst c0
 refine L_not_ rfl rfl (mB rfl (L_split (d:=13) (b:=(!x6)) rfl (fun hc23=>?_) (fun hc23=>?_)))
 rw [ite_t hc23] at hb15
 refine ps rfl (ps rfl (ps rfl (L_pick (v:=Bo b15) rfl rfl (congrArg Value.bool (so hb15)) (nn (rj hR16 ⟨rfl,rfl,rfl,hst⟩)))))
 rw [ite_f hc23] at hb15
 obtain ⟨x13,hx13,hb15⟩:=bind_some hb15
 refine mI rfl ?_
 obtain ⟨H24b,l25,s26,z27,k28⟩:=hst.borrow
 refine L_call rfl Try.call65 (ops1 rfl) (i_isFuel_c (fuel:=fuel) s26 hx13) ?_
 rintro _ w29 ⟨rfl,hst⟩
 have hst:=k28 hst c0
 refine L_not_ rfl rfl (L_pick (v:=Bo b15) rfl rfl (congrArg Value.bool (so hb15)) (nn (rj hR16 ⟨rfl,rfl,rfl,hst⟩)))
 intro f w_ hR
 obtain ⟨sf0,sf1,sf17,hst⟩:=rk hR16 hR
 refine W_cond (b:=b15) sf17 (fun hc30=>?_) (fun hc30=>?_)
 have hF:=(ite_t hc30).symm.trans hF
 refine sq (aI rfl (aV S0 rfl (aV S0 rfl (nn (W_ret (retG3 (v1:=I 3) (v2:=S0) (v3:=S0) Try.results17 rfl rfl rfl ?_))))))
 obtain rfl:=so hF
 have hst:=Star.addNil (R:=(OR.frz RP.bool)) (e:=4) hst
 have hst:=Star.addNil (R:=(oStep 112)) (e:=93) hst
 have hst:=hst.get 1 rfl
 exact ⟨S0,S0,rfl,hst⟩
 have hF:=(ite_f hc30).symm.trans hF
 refine W_skip (W_seq ?_)
 obtain ⟨x33,hx33,hF⟩:=bind_some hF
 refine W_region (mF sf0 rfl (L_call rfl Try.call66 (ops1 rfl) (slices_Clone_implConstraint_c (s:=list) hst h0 hx33) ?_))
 rintro r38_0 w38 ⟨H38,l38,_,rfl,hst⟩
 refine mF sf1 rfl (L_bld rfl (parts2 rfl rfl) (bld_85_0_1 (r38_0) (I fuel) (one_len (Star.len 0 hst rfl)) rfl) (L_box (v:=.agg #[r38_0,I fuel,S0,Bo false]) (cs:=#[r38_0,I fuel,S0,Bo false]) rfl rfl rfl hst (fun g40 w41 hst=>aV (Pt g40) rfl (nq ?_))))
 obtain ⟨x43,hx43,hF⟩:=bind_some hF
 refine W_region (mV (Pt g40) rfl ?_)
 have hst:=Star.addNil (R:=(oStep 112)) (e:=93) hst
 have hst:=hst.gets [2,2] rfl
 refine L_call rfl Try.call67 (ops2 rfl rfl) (i_searching_visit_c (s:=({ list:=x33,fuel:=fuel,steps:=[],much:=false } : Srch)) (decisions:=[]) hst (rel_nil _ _ _) hx43) ?_
 rintro _ w49 ⟨H49,l49,r49_0,r49_1,r49_2,rfl,hst⟩
 refine mV (.tuple #[r49_0,Bo x43.2.1]) rfl (L_ex (v:=r49_0) rfl rfl rfl (L_ex (v:=Bo x43.2.1) rfl rfl rfl (aV r49_0 rfl (aB rfl (nq (W_block (sq (mB rfl (aB rfl (nn (W_cond (b:=x43.2.1) rfl (fun hc53=>?_) (fun hc53=>?_))))))))))))
 have hF:=(ite_t hc53).symm.trans hF
 refine sq (mV r49_0 rfl (aI rfl (aV r49_0 rfl (aV S0 rfl (nn (W_ret (retG3 (v1:=I 1) (v2:=r49_0) (v3:=S0) Try.results17 rfl rfl rfl ?_)))))))
 obtain rfl:=so hF
 have hst:=Star.addNil (R:=(oStep 112)) (e:=93) hst
 have hst:=hst.get 1 rfl
 exact ⟨r49_0,S0,rfl,(Star.down (Star.keepN 2 hst) (Le.trans l38 l49) (co closed_bool (co closed_oStep c0)))⟩
 have hF:=(ite_f hc53).symm.trans hF
 refine sq (mV (Pt g40) rfl (L_nc rfl rfl (fA 3 fa_85_3 rfl rfl (ldB 1 hst Try.isAgg4 rfl rfl rfl (aB rfl (nn (W_cond (b:=x43.2.2.2.2.2) rfl (fun hc55=>?_) (fun hc55=>?_))))))))
 have hF:=(ite_t hc55).symm.trans hF
 refine sq (aI rfl (aV S0 rfl (aV S0 rfl (nn (W_ret (retG3 (v1:=I 0) (v2:=S0) (v3:=S0) Try.results17 rfl rfl rfl ?_))))))
 obtain rfl:=so hF
 have hst:=Star.addNil (R:=(OR.frz RP.bool)) (e:=4) hst
 have hst:=Star.addNil (R:=(oStep 112)) (e:=93) hst
 have hst:=hst.get 1 rfl
 exact ⟨S0,S0,rfl,(Star.down (Star.keepN 2 hst) (Le.trans l38 l49) (co closed_bool (co closed_oStep c0)))⟩
 have hF:=(ite_f hc55).symm.trans hF
 refine W_skip (W_seq ?_)
 have hst:=Star.drop 0 hst rfl
 refine W_drawS 6 [isV (Pt g40),isV (Pt g40),isV (Pq g40 2),isV (r49_2),isV (I 2),isV (S0)] [box g40 85 #[r49_1,I x43.2.2.2.1,r49_2,Bo x43.2.2.2.2.2],oF 43 (rCon 112) r49_1 x43.2.2.1,oS 93 (oStep 112) r49_2 x43.2.2.2.2.1] [] ([]) [([],[]),([],[]),([],[]),([],[]),([],[]),([],[])] (S:=[]) Try_mix (by kernel_rfl) rfl (by kernel_rfl) (amF_cons (mono_V _) (amF_cons (mono_V _) (amF_cons (mono_V _) (amF_cons (mono_V _) (amF_cons (mono_V _) (amF_cons (mono_V _) amF_nil)))))) hst ?_ (fun f w_ H58 hS58 hE58 hT58 hst=>?_)
 refine opsS_cons (fun f w_ _ _ s _ _ hst=>mF ((s 7 rfl).trans rfl) rfl (nO rfl rfl hst)) (opsS_cons (fun f w_ _ _ _ _ p hst=>L_nc rfl (p 0 36 rfl rfl) (nO rfl rfl hst)) (opsS_cons (fun f w_ _ _ _ _ p hst=>fA 2 fa_85_2 (p 1 37 rfl rfl) rfl (nO rfl rfl hst)) (opsS_cons (fun f w_ _ _ _ _ p hst=>ldB 0 hst Try.isAgg30 (p 2 38 rfl rfl) rfl rfl (nO rfl rfl hst)) (opsS_cons (fun f w_ _ _ _ _ _ hst=>aI rfl (nO rfl rfl hst)) (opsS_cons (fun f w_ _ _ _ _ _ hst=>aV S0 rfl (nO rfl rfl hst)) (opsS_nil))))))
 refine aF (hT58 3 39 rfl rfl) rfl (nn (W_ret (retG3 (v1:=I 2) (v2:=S0) (v3:=r49_2) Try.results17 (hT58 4 4 rfl rfl) (hT58 5 5 rfl rfl) rfl ?_)))
 obtain rfl:=so hF
 have hst:=Star.addNil (R:=(OR.frz RP.bool)) (e:=4) hst
 have hst:=hst.gets [3,1] rfl
 exact ⟨S0,r49_2,rfl,(Star.down (Star.keepN 2 hst) (Le.trans (Le.trans l38 l49) hE58) (co closed_bool (co closed_oStep c0)))⟩
theorem s_l3Assign_c {p : List Int} {lit : Int} {v0 : Value} {H : FH} {w : World} (hst : Star H w [oF 3 RP.int v0 p]) {r : List Int} (hF : s_l3Assign p lit = some r) :
 C Try.prog 112 #[v0,I lit] w fun v w'=>v = .tuple #[]∧Star H w' [oF 3 RP.int v0 r]:=by
 unfold s_l3Assign at hF
 refine C_enter Try.func112 rfl Try.ntmps112 rfl (sq (mI rfl (L_gtr rfl rfl rfl (nn ?_))))
 obtain ⟨kp_1,hA2,hF⟩:=bind_some hF
 obtain ⟨R2,hR2⟩:=exR fun f w_=>Star H w_ ([oF 3 RP.int v0 kp_1])
 refine W_join R2 ?_ ?_
 refine W_cond (b:=decide (lit > 0)) rfl (fun hc3=>?_) (fun hc3=>?_)
 have hA2:=(ite_t hc3).symm.trans hA2
 obtain ⟨x4,hx4,hA2⟩:=bind_some hA2
 refine W_region (mV v0 rfl (mI rfl (L_sub rfl rfl rfl ?_)))
 obtain ⟨g8,cap_g8,hv9,_,_⟩:=Star.row 0 hst rfl hx4
 refine L_ixO (R:=(OR.frz RP.int)) (tb:=0) 0 rfl Try.underlying65 Try.sizeOf3 rfl hv9 (by first | rfl | simp) rfl hx4 ?_
 have hst:=Star.addF (r:=RP.int) (cs:=[I 1]) (x:=1) hst rfl
 refine L_stE1 (u:=I 1) rfl Try.sizeOf3 rfl rfl rfl hv9 hst hx4 (fun w10 hst=>?_)
 refine nn ?_
 obtain rfl:=so hA2
 exact rj hR2 hst
 have hA2:=(ite_f hc3).symm.trans hA2
 obtain ⟨x11,hx11,hA2⟩:=bind_some hA2
 refine W_region (mV v0 rfl (mI rfl (L_neg rfl rfl (L_sub rfl rfl rfl ?_))))
 obtain ⟨g15,cap_g15,hv16,_,_⟩:=Star.row 0 hst rfl hx11
 refine L_ixO (R:=(OR.frz RP.int)) (tb:=0) 0 rfl Try.underlying65 Try.sizeOf3 rfl hv16 (by first | rfl | simp) rfl hx11 ?_
 have hst:=Star.addF (r:=RP.int) (cs:=[I (-1)]) (x:=(-1)) hst rfl
 refine L_stE1 (u:=I (-1)) rfl Try.sizeOf3 rfl rfl rfl hv16 hst hx11 (fun w17 hst=>?_)
 refine nn ?_
 obtain rfl:=so hA2
 exact rj hR2 hst
 intro f w_ hR
 rw [hR2] at hR
 have hst:=hR
 clear hR2
 refine ret0 Try.results112 ?_
 obtain rfl:=so hF
 exact ⟨rfl,hst⟩
theorem s_l3State_c {p : List Int} {lit : Int} {v0 : Value} {H : FH} {w : World} (hst : Star H w []) (h0 : (rS 3 RP.int).rel H [v0] p) {r : Int} (hF : s_l3State p lit = some r) :
 C Try.prog 147 #[v0,I lit] w fun v w'=>v = I r∧Star H w' []:=by
 unfold s_l3State at hF
 refine C_enter Try.func147 rfl Try.ntmps147 rfl (sq (aI rfl (nq (sq (mI rfl (L_gtr rfl rfl rfl (nn (W_cond (b:=decide (lit > 0)) rfl (fun hc1=>?_) (fun hc1=>?_)))))))))
 have hF:=(ite_t hc1).symm.trans hF
 refine W_seq ?_
 obtain ⟨x2,hx2,hF⟩:=bind_some hF
 refine W_region (mV v0 rfl (mI rfl (L_sub rfl rfl rfl (L_ix (r:=RP.int) rfl Try.underlying65 Try.sizeOf3 rfl h0 rfl hx2 (fun g7 o8 cs_g7 hrk_hat9 hat9=>?_)))))
 obtain rfl : _ = [_]:=hrk_hat9
 refine L_ld rfl Try.isAgg3 rfl (At.cell (AtH.at hat9 hst.sub) (j:=0) rfl) (aI rfl (nn (W_ret (retG1 (v1:=I x2) Try.results147 rfl ?_))))
 obtain rfl:=so hF
 exact ⟨rfl,hst⟩
 have hF:=(ite_f hc1).symm.trans hF
 refine W_skip (W_seq ?_)
 obtain ⟨x11,hx11,hF⟩:=bind_some hF
 refine W_region (mV v0 rfl (mI rfl (L_neg rfl rfl (L_sub rfl rfl rfl (L_ix (r:=RP.int) rfl Try.underlying65 Try.sizeOf3 rfl h0 rfl hx11 (fun g16 o17 cs_g16 hrk_hat18 hat18=>?_))))))
 obtain rfl : _ = [_]:=hrk_hat18
 refine L_ld rfl Try.isAgg3 rfl (At.cell (AtH.at hat18 hst.sub) (j:=0) rfl) (L_neg rfl rfl (aI rfl (nn (W_ret (retG1 (v1:=I (i64 (-x11))) Try.results147 rfl ?_)))))
 obtain rfl:=so hF
 exact ⟨rfl,hst⟩
end Go.Proofs.Yteeilbddjlpiaaa

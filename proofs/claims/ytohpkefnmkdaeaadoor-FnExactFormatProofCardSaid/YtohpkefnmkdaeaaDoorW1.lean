/- Part of a proof by program: W1. -/
import Derived.Test.YtohpkefnmkdaeaaDoorD1
import Derived.Test.YtohpkefnmkdaeaaDoorProg
import Derived.Test.YtohpkefnmkdaeaaDoorShelf
import Derived.WalkKit
import Derived.Shelf.Strings.BuilderF
namespace Go.Proofs.YtohpkefnmkdaeaaDoor
open Go Go.E Go.L Go.RowKit
set_option linter.unusedVariables false
set_option linter.unusedSimpArgs false
set_option maxRecDepth 100000
theorem Tryd_mix : Tryd.prog.follows .mixedOrders = true := by kernel_rfl
theorem fa_67_0 : FA Tryd.prog 67 0 0 := fa_of Tryd.underlying67 rfl Tryd.sizeOf65 rfl
theorem fa_67_1 : FA Tryd.prog 67 1 1 := fa_of Tryd.underlying67 rfl Tryd.sizeOf3 rfl
theorem fa_69_0 : FA Tryd.prog 69 0 0 := fa_of Tryd.underlying69 rfl Tryd.sizeOf3 rfl
theorem fa_69_1 : FA Tryd.prog 69 1 1 := fa_of Tryd.underlying69 rfl Tryd.sizeOf3 rfl
theorem fa_69_2 : FA Tryd.prog 69 2 2 := fa_of Tryd.underlying69 rfl Tryd.sizeOf3 rfl
theorem fa_69_3 : FA Tryd.prog 69 3 3 := fa_of Tryd.underlying69 rfl Tryd.sizeOf67 rfl
theorem fa_73_0 : FA Tryd.prog 73 0 0 := fa_of Tryd.underlying73 rfl Tryd.sizeOf71 rfl
theorem fa_73_1 : FA Tryd.prog 73 1 1 := fa_of Tryd.underlying73 rfl Tryd.sizeOf3 rfl
theorem fa_75_0 : FA Tryd.prog 75 0 0 := fa_of Tryd.underlying75 rfl Tryd.sizeOf3 rfl
theorem fa_75_1 : FA Tryd.prog 75 1 1 := fa_of Tryd.underlying75 rfl Tryd.sizeOf3 rfl
theorem fa_75_2 : FA Tryd.prog 75 2 2 := fa_of Tryd.underlying75 rfl Tryd.sizeOf3 rfl
theorem fa_75_3 : FA Tryd.prog 75 3 3 := fa_of Tryd.underlying75 rfl Tryd.sizeOf73 rfl
theorem fa_126_0 : FA Tryd.prog 126 0 0 := fa_of Tryd.underlying126 rfl Tryd.sizeOf3 rfl
theorem fa_126_1 : FA Tryd.prog 126 1 1 := fa_of Tryd.underlying126 rfl Tryd.sizeOf3 rfl
theorem fa_134_0 : FA Tryd.prog 134 0 0 := fa_of Tryd.underlying134 rfl Tryd.sizeOf3 rfl
theorem fa_134_1 : FA Tryd.prog 134 1 1 := fa_of Tryd.underlying134 rfl Tryd.sizeOf3 rfl
theorem et_41 : ET Tryd.prog 41 75 5 := et_of Tryd.underlying41 (by decide) (by kernel_rfl)
theorem et_71 : ET Tryd.prog 71 126 2 := et_of Tryd.underlying71 (by decide) (by kernel_rfl)
theorem termEq_126 : TermEq Tryd.prog 126 := termEq_of (by kernel_rfl) Tryd.underlying126 rfl (by decide) (by decide) rfl rfl Tryd.underlying3 Tryd.underlying3 (by kernel_rfl)
theorem bld_73_  : ∀ w, (Instr.build 73 #[]).run Tryd.prog w = .ok (.agg #[.slice none 0 0, .int .i64 0]) w := by
  intro w
  simp [Instr.build, Instr.fill, Tryd.zeroValue73, Tryd.runUnderlying73, Tryd.sizeOf3, Tryd.sizeOf71, cells_agg]
theorem bs_104_9_0_0_0_0_0_0_0_0_0 (a0 a1 a2 a3 a4 a5 a6 a7 a8 : Value) (ha0 : a0.oneCell' = true) (ha1 : a1.oneCell' = true) (ha2 : a2.oneCell' = true) (ha3 : a3.oneCell' = true) (ha4 : a4.oneCell' = true) (ha5 : a5.oneCell' = true) (ha6 : a6.oneCell' = true) (ha7 : a7.oneCell' = true) (ha8 : a8.oneCell' = true) : ∀ w, (Instr.buildSlice 104 9 #[(0, a0), (1, a1), (2, a2), (3, a3), (4, a4), (5, a5), (6, a6), (7, a7), (8, a8)]).run Tryd.prog w = .ok (.slice (some ⟨w.heap.size, 0, none⟩) 9 9) (w.alloc (.cells #[a0, a1, a2, a3, a4, a5, a6, a7, a8] 9)) := by
  intro w
  simp [Instr.buildSlice, Instr.fill, newRow, Tryd.zeroValue9, Tryd.runUnderlying104, Tryd.sizeOf9, cells_one ha0, cells_one ha1, cells_one ha2, cells_one ha3, cells_one ha4, cells_one ha5, cells_one ha6, cells_one ha7, cells_one ha8, cells_agg, cells_int, cells_bool, cells_str, cells_sl, Array.range_succ, range0]
theorem bs_22_1_0 (a0 : Value) (ha0 : a0.oneCell' = true) : ∀ w, (Instr.buildSlice 22 1 #[(0, a0)]).run Tryd.prog w = .ok (.slice (some ⟨w.heap.size, 0, none⟩) 1 1) (w.alloc (.cells #[a0] 5)) := by
  intro w
  simp [Instr.buildSlice, Instr.fill, newRow, Tryd.zeroValue5, Tryd.runUnderlying22, Tryd.sizeOf5, cells_one ha0, cells_agg, cells_int, cells_bool, cells_str, cells_sl, Array.range_succ, range0]
theorem i_within_c {n_ : Int} {low : Int} {high : Int} {H : FH} {w : World} (Z : Star H w []) {r : Bool} (hF : i_within n_ low high = some r) :
 C Tryd.prog 51 #[I n_,I low,I high] w fun v w'=>v = Bo r∧Star H w' []:=by
 unfold i_within at hF
 refine C_enter Tryd.func51 rfl Tryd.ntmps51 rfl (sq (aB rfl (nq ?_)))
 obtain ⟨R1,hR1⟩:=exR fun f w_=>f 6 = Bo ((decide (low≤n_)) && (decide (n_≤high)))∧Star H w_ ([])
 refine W_join R1 ?_ ?_
 refine W_region (mI rfl (mI rfl (L_leq rfl rfl rfl (mB rfl (L_split (d:=10) (b:=decide (low≤n_)) rfl (fun hc2=>?_) (fun hc2=>?_))))))
 refine mI rfl (mI rfl (L_leq rfl rfl rfl (L_pick (v:=Bo ((decide (low≤n_)) && (decide (n_≤high)))) rfl rfl (and_t hc2 rfl) (aB rfl (nn (rj hR1 ⟨rfl,Z⟩))))))
 refine ps rfl (ps rfl (ps rfl (L_pick (v:=Bo ((decide (low≤n_)) && (decide (n_≤high)))) rfl rfl (and_f hc2) (aB rfl (nn (rj hR1 ⟨rfl,Z⟩))))))
 intro f w_ hR
 obtain ⟨sf6,Z⟩:=rk hR1 hR
 refine W_ret (retG1 (v1:=Bo ((decide (low≤n_)) && (decide (n_≤high)))) Tryd.results51 sf6 ?_)
 obtain rfl:=so hF
 exact ⟨rfl,Z⟩
theorem strconv_Itoa_c {x_ : Int} {H : FH} {w : World} (Z : Star H w []) {r : ByteArray} (hF : strconv_Itoa x_ = some r) :
 C Tryd.prog 79 #[I x_] w fun v w'=>v = .string r∧Star H w' []:=by
 obtain ⟨h0,h1,rfl⟩:=strconv_Itoa_some hF
 refine Calls.mono (Tryd.strconv_Itoa x_ h0 h1 w (Z.sub.var H.glob.tab)) ?_
 rintro e w' ⟨rfl,k,os,rfl⟩
 exact ⟨_,rfl,rfl,Star.ext Z (grown_drew w k os)⟩
theorem s_l17Dec_F_c {fu : Nat} {rec_ : Int→Option ByteArray} (hrec : ∀ {n_ : Int} {H : FH} {w : World} (Z : Star H w []) {r : ByteArray} (hF : rec_ n_ = some r),C Tryd.prog 59 #[I n_] w fun v w'=>v = .string r∧Star H w' []) {n_ : Int} {H : FH} {w : World} (Z : Star H w []) {r : ByteArray} (hF : s_l17Dec_F fu rec_ n_ = some r) :
 C Tryd.prog 59 #[I n_] w fun v w'=>v = .string r∧Star H w' []:=by
 unfold s_l17Dec_F at hF
 refine C_enter Tryd.func59 rfl Tryd.ntmps59 rfl (sq (aV (.string (⟨#[]⟩ : ByteArray)) rfl (nq (sq (mI rfl (L_lss rfl rfl rfl (nn (W_cond (b:=decide (n_ < (-9223372036854775807))) rfl (fun hc1=>?_) (fun hc1=>?_)))))))))
 have hF:=(ite_t hc1).symm.trans hF
 refine sq (aV (.string (⟨#[45,57,50,50,51,51,55,50,48,51,54,56,53,52,55,55,53,56,48,56]⟩ : ByteArray)) rfl (nn (W_ret (retG1 (v1:=.string (⟨#[45,57,50,50,51,51,55,50,48,51,54,56,53,52,55,55,53,56,48,56]⟩ : ByteArray)) Tryd.results59 rfl ?_))))
 obtain rfl:=so hF
 exact ⟨rfl,Z⟩
 have hF:=(ite_f hc1).symm.trans hF
 refine W_skip (W_seq (sq (mI rfl (L_lss rfl rfl rfl (nn (W_cond (b:=decide (n_ < 0)) rfl (fun hc2=>?_) (fun hc2=>?_)))))))
 have hF:=(ite_t hc2).symm.trans hF
 refine W_seq ?_
 obtain ⟨x8,hx8,hF⟩:=bind_some hF
 obtain ⟨x10,hx10,hF⟩:=bind_some hF
 refine W_region (mI rfl (L_neg rfl rfl ?_))
 obtain ⟨H11b,l12,s13,z14,k15⟩:=Z.borrow
 refine L_call rfl Tryd.call59 (ops1 rfl) (hrec (n_:=i64 (-n_)) s13 hx8) ?_
 rintro _ w16 ⟨rfl,Z⟩
 have Z:=k15 Z c0
 obtain ⟨hx10_l,hx10_e⟩:=cat_some hx10
 refine L_sadd (s:=(⟨#[45]⟩ : ByteArray)) (s':=x8) rfl rfl rfl hx10_l ?_
 rw [← hx10_e]
 refine aV (.string x10) rfl (nn (W_ret (retG1 (v1:=.string x10) Tryd.results59 rfl ?_)))
 obtain rfl:=so hF
 exact ⟨rfl,Z⟩
 have hF:=(ite_f hc2).symm.trans hF
 refine W_skip (sq (aV (.string (⟨#[]⟩ : ByteArray)) rfl (nq ?_)))
 obtain ⟨j20,hL20,hF⟩:=bind_some hF
 obtain ⟨R20,hR20⟩:=exR fun f w_=>∃ n_18 : Int,∃ out_19 : ByteArray,j20 = .nx (n_18,out_19)∧f 0 = I n_18∧f 3 = .string out_19∧Star H w_ ([])
 refine W_join R20 ?_ ?_
 refine W_block ?_
 obtain ⟨I20,hI20⟩:=exI fun n f w_=>∃ n_18 : Int,∃ out_19 : ByteArray,whileL s_l17Dec_b1 n (n_18,out_19) = some j20∧f 0 = I n_18∧f 3 = .string out_19∧Star H w_ ([])
 refine W_loop I20 (n:=fu) ?_ ?_
 exact ij hI20 ⟨n_,(⟨#[]⟩ : ByteArray),hL20,rfl,rfl,Z⟩
 intro n20 f w_ hI
 obtain ⟨n_18,out_19,hL20,sf0,sf3,Z⟩:=ik hI20 hI
 rcases n20 with _ | n20
 exact (while_zero hL20).elim
 obtain ⟨o20,hB20,hL20⟩:=while_succ hL20
 rw [s_l17Dec_b1] at hB20
 refine W_seq (sq (mF sf0 rfl (L_gtr rfl rfl rfl (nn (W_cond (b:=decide (n_18 > 9)) rfl (fun hc21=>?_) (fun hc21=>?_))))))
 have hB20:=(ite_t hc21).symm.trans hB20
 refine W_skip (W_block (W_seq ?_))
 obtain ⟨x25,hx25,hB20⟩:=bind_some hB20
 refine W_region (mF sf0 rfl (L_rem (m:=n_18) (n:=10) rfl rfl rfl (by decide) (L_add rfl rfl rfl (L_cv8 (n:=i64 (48 + (Int.tmod n_18 10))) rfl rfl ⟨_,Tryd.underlying3⟩ Tryd.underlying5 (L_bs rfl (parts1 rfl) (bs_22_1_0 (.int .u8 ((u8w (i64 (48 + (Int.tmod n_18 10)))).toNat : Int)) rfl) Z (fun g26 w27 Z=>?_))))))
 have Z:=Star.addF (r:=RP.u8) (cs:=[.int .u8 ((u8w (i64 (48 + (Int.tmod n_18 10)))).toNat : Int)]) (x:=(u8w (i64 (48 + (Int.tmod n_18 10))))) Z rfl
 have Z:=Star.mkRow (R:=(OR.frz RP.u8)) [([.int .u8 ((u8w (i64 (48 + (Int.tmod n_18 10)))).toNat : Int)],(u8w (i64 (48 + (Int.tmod n_18 10)))))] [(u8w (i64 (48 + (Int.tmod n_18 10))))] 1 Z rfl rfl rfl (by decide)
 refine L_cvs (xs:=[(u8w (i64 (48 + (Int.tmod n_18 10))))]) 0 rfl Tryd.underlying22 Tryd.underlying5 Tryd.underlying9 rfl Z rfl (by simp) (mF sf3 rfl ?_)
 obtain ⟨hx25_l,hx25_e⟩:=cat_some hx25
 refine L_sadd (s:=(bs [(u8w (i64 (48 + (Int.tmod n_18 10))))])) (s':=out_19) rfl rfl rfl hx25_l ?_
 rw [← hx25_e]
 refine aV (.string x25) rfl (nn (W_region (mF sf0 rfl (L_quo (m:=n_18) (n:=10) rfl rfl rfl (by decide) (aI rfl (nn ?_))))))
 obtain rfl:=so hB20
 show ∃ m,m < _∧I20 m _ _
 refine ⟨n20,Nat.lt_succ_self _,?_⟩
 exact ij hI20 ⟨i64 (Int.tdiv n_18 10),x25,hL20,rfl,rfl,(Star.keepN 0 Z)⟩
 have hB20:=(ite_f hc21).symm.trans hB20
 refine W_exit ?_
 obtain rfl:=so hB20
 obtain rfl:=so hL20
 exact rj hR20 ⟨n_18,out_19,rfl,sf0,sf3,Z⟩
 intro f w_ hR
 obtain ⟨n_18,out_19,rfl,sf0,sf3,Z⟩:=rk hR20 hR
 refine W_seq ?_
 obtain ⟨x32,hx32,hF⟩:=bind_some hF
 refine W_region (mF sf0 rfl (L_add rfl rfl rfl (L_cv8 (n:=i64 (48 + n_18)) rfl rfl ⟨_,Tryd.underlying3⟩ Tryd.underlying5 (L_bs rfl (parts1 rfl) (bs_22_1_0 (.int .u8 ((u8w (i64 (48 + n_18))).toNat : Int)) rfl) Z (fun g33 w34 Z=>?_)))))
 have Z:=Star.addF (r:=RP.u8) (cs:=[.int .u8 ((u8w (i64 (48 + n_18))).toNat : Int)]) (x:=(u8w (i64 (48 + n_18)))) Z rfl
 have Z:=Star.mkRow (R:=(OR.frz RP.u8)) [([.int .u8 ((u8w (i64 (48 + n_18))).toNat : Int)],(u8w (i64 (48 + n_18))))] [(u8w (i64 (48 + n_18)))] 1 Z rfl rfl rfl (by decide)
 refine L_cvs (xs:=[(u8w (i64 (48 + n_18)))]) 0 rfl Tryd.underlying22 Tryd.underlying5 Tryd.underlying9 rfl Z rfl (by simp) (mF sf3 rfl ?_)
 obtain ⟨hx32_l,hx32_e⟩:=cat_some hx32
 refine L_sadd (s:=(bs [(u8w (i64 (48 + n_18)))])) (s':=out_19) rfl rfl rfl hx32_l ?_
 rw [← hx32_e]
 refine aV (.string x32) rfl (nn (W_ret (retG1 (v1:=.string x32) Tryd.results59 rfl ?_)))
 obtain rfl:=so hF
 exact ⟨rfl,(Star.keepN 0 Z)⟩
theorem s_l17Dec_R_c {fu : Nat} : ∀ (n : Nat) {n_ : Int} {H : FH} {w : World} (Z : Star H w []) {r : ByteArray} (hF : s_l17Dec_R fu n n_ = some r),C Tryd.prog 59 #[I n_] w fun v w'=>v = .string r∧Star H w' []:=by
 intro n
 induction n with
 | zero=>intros; rename_i hF; cases hF
 | succ n ih=>intros; rename_i Z _ hF; exact s_l17Dec_F_c ih Z hF
theorem s_l17Dec_c {fu : Nat} {n_ : Int} {H : FH} {w : World} (Z : Star H w []) {r : ByteArray} (hF : s_l17Dec fu n_ = some r) :
 C Tryd.prog 59 #[I n_] w fun v w'=>v = .string r∧Star H w' []:=s_l17Dec_R_c fu Z hF
theorem l_szTermS_c {a : List Term} {left : Int} {v0 : Value} {H : FH} {w : World} (Z : Star H w []) (h0 : (rS 134 rTerm).rel H [v0] a) {r : Int} (hF : l_szTermS a left = some r) :
 C Tryd.prog 96 #[v0,I left] w fun v w'=>v = I r∧Star H w' []:=by
 unfold l_szTermS at hF
 refine C_enter Tryd.func96 rfl Tryd.ntmps96 rfl (sq (aI rfl (ns (mI rfl (mV v0 rfl (L_len rfl Tryd.underlying65 rfl (slice_len h0) (L_sub rfl rfl rfl (aI rfl (nq (sq (mI rfl (L_lss rfl rfl rfl (nn (W_cond (b:=decide ((i64 (left - (a.length : Int))) < 0)) rfl (fun hc1=>?_) (fun hc1=>?_)))))))))))))))
 have hF:=(ite_t hc1).symm.trans hF
 refine sq (aI rfl (nn (W_ret (retG1 (v1:=I (-1)) Tryd.results96 rfl ?_))))
 obtain rfl:=so hF
 exact ⟨rfl,Z⟩
 have hF:=(ite_f hc1).symm.trans hF
 refine W_skip (sq (mI rfl (aI rfl (nn (W_ret (retG1 (v1:=I (i64 (left - (a.length : Int)))) Tryd.results96 rfl ?_))))))
 obtain rfl:=so hF
 exact ⟨rfl,Z⟩
theorem l_szConstraint_c {a : Con} {left : Int} {v0_0 : Value} {H : FH} {w : World} (Z : Star H w []) (h0_0 : (rS 134 rTerm).rel H [v0_0] a.terms) {r : Int} (hF : l_szConstraint a left = some r) :
 C Tryd.prog 63 #[.agg #[v0_0,I a.bound],I left] w fun v w'=>v = I r∧Star H w' []:=by
 unfold l_szConstraint at hF
 refine C_enter Tryd.func63 rfl Tryd.ntmps63 rfl (sq (L_box (v:=.agg #[v0_0,I a.bound]) (cs:=#[v0_0,I a.bound]) rfl rfl rfl Z (fun g3 w4 Z=>aI rfl (nq ?_))))
 obtain ⟨x10,hx10,hF⟩:=bind_some hF
 refine W_region (fA 0 fa_67_0 rfl rfl (ldB 0 Z Tryd.isAgg65 rfl rfl rfl (mI rfl ?_)))
 obtain ⟨H12b,l13,s14,z15,k16⟩:=Z.borrow
 refine L_call rfl Tryd.call96 (ops2 rfl rfl) (l_szTermS_c (a:=a.terms) (left:=left) s14 (RP.mono _ h0_0 l13) hx10) ?_
 rintro _ w17 ⟨rfl,Z⟩
 have Z:=k16 Z c0
 refine aI rfl (nq (sq (mI rfl (L_lss rfl rfl rfl (nn (W_cond (b:=decide (x10 < 0)) rfl (fun hc18=>?_) (fun hc18=>?_)))))))
 have hF:=(ite_t hc18).symm.trans hF
 refine sq (aI rfl (nn (W_ret (retG1 (v1:=I (-1)) Tryd.results63 rfl ?_))))
 obtain rfl:=so hF
 exact ⟨rfl,(Star.keepN 0 Z)⟩
 have hF:=(ite_f hc18).symm.trans hF
 refine W_skip (sq (mI rfl (aI rfl (nn (W_ret (retG1 (v1:=I x10) Tryd.results63 rfl ?_))))))
 obtain rfl:=so hF
 exact ⟨rfl,(Star.keepN 0 Z)⟩
theorem l_szStep_c {a : Step} {left : Int} {v0_3 : Value} {H : FH} {w : World} (Z : Star H w []) (h0_3 : (rS 134 rTerm).rel H [v0_3] a.given.terms) {r : Int} (hF : l_szStep a left = some r) :
 C Tryd.prog 39 #[.agg #[I a.kind,I a.a,I a.b,v0_3,I a.given.bound],I left] w fun v w'=>v = I r∧Star H w' []:=by
 unfold l_szStep at hF
 refine C_enter Tryd.func39 rfl Tryd.ntmps39 rfl (sq (L_box (v:=.agg #[I a.kind,I a.a,I a.b,v0_3,I a.given.bound]) (cs:=#[I a.kind,I a.a,I a.b,v0_3,I a.given.bound]) rfl rfl rfl Z (fun g3 w4 Z=>aI rfl (nq ?_))))
 obtain ⟨x10,hx10,hF⟩:=bind_some hF
 refine W_region (fA 3 fa_69_3 rfl rfl (L_lda (cs:=[v0_3,I a.given.bound]) rfl Tryd.isAgg67 Tryd.sizeOf67 rfl (At.sub0 (Blk.at (Star.blkAt 0 Z rfl)) 3 2) rfl (mI rfl ?_)))
 obtain ⟨H12b,l13,s14,z15,k16⟩:=Z.borrow
 refine L_call rfl Tryd.call63 (ops2 rfl rfl) (l_szConstraint_c (a:=a.given) (left:=left) s14 (RP.mono _ h0_3 l13) hx10) ?_
 rintro _ w17 ⟨rfl,Z⟩
 have Z:=k16 Z c0
 refine aI rfl (nq (sq (mI rfl (L_lss rfl rfl rfl (nn (W_cond (b:=decide (x10 < 0)) rfl (fun hc18=>?_) (fun hc18=>?_)))))))
 have hF:=(ite_t hc18).symm.trans hF
 refine sq (aI rfl (nn (W_ret (retG1 (v1:=I (-1)) Tryd.results39 rfl ?_))))
 obtain rfl:=so hF
 exact ⟨rfl,(Star.keepN 0 Z)⟩
 have hF:=(ite_f hc18).symm.trans hF
 refine W_skip (sq (mI rfl (aI rfl (nn (W_ret (retG1 (v1:=I x10) Tryd.results39 rfl ?_))))))
 obtain rfl:=so hF
 exact ⟨rfl,(Star.keepN 0 Z)⟩
theorem l_szStepS_c {a : List Step} {left : Int} {v0 : Value} {H : FH} {w : World} (Z : Star H w []) (h0 : (rS 69 (rStep 134)).rel H [v0] a) {r : Int} (hF : l_szStepS a left = some r) :
 C Tryd.prog 14 #[v0,I left] w fun v w'=>v = I r∧Star H w' []:=by
 unfold l_szStepS at hF
 refine C_enter Tryd.func14 rfl Tryd.ntmps14 rfl (sq (aI rfl (ns (mI rfl (mV v0 rfl (L_len rfl Tryd.underlying38 rfl (slice_len h0) (L_sub rfl rfl rfl (aI rfl (nq (sq (mI rfl (L_lss rfl rfl rfl (nn (W_cond (b:=decide ((i64 (left - (a.length : Int))) < 0)) rfl (fun hc1=>?_) (fun hc1=>?_)))))))))))))))
 have hF:=(ite_t hc1).symm.trans hF
 refine sq (aI rfl (nn (W_ret (retG1 (v1:=I (-1)) Tryd.results14 rfl ?_))))
 obtain rfl:=so hF
 exact ⟨rfl,Z⟩
 have hF:=(ite_f hc1).symm.trans hF
 refine W_skip (W_seq (sq (aI rfl (nn ?_))))
 have hlen4 : List.length a≤9223372036854775807:=len_le (slice_len h0)
 obtain ⟨j4,hL4,hF⟩:=bind_some hF
 obtain ⟨R4,hR4⟩:=exR fun f w_=>∃ left_3 : Int,j4 = .nx left_3∧f 1 = I left_3∧Star H w_ ([])
 refine W_join R4 ?_ ?_
 refine W_block ?_
 obtain ⟨I4,hI4⟩:=exI fun n f w_=>∃ i_2 : Nat,∃ suf4 : List Step,∃ left_3 : Int,n = suf4.length∧List.drop i_2 a = suf4∧i_2 + suf4.length = a.length∧rangeL l_szStepS_b1 suf4 i_2 left_3 = some j4∧f 0 = v0∧f 1 = I left_3∧f 5 = I i_2∧Star H w_ ([])
 refine W_loop I4 (n:=a.length) ?_ ?_
 exact ij hI4 ⟨0,a,i64 (left - (a.length : Int)),rfl,rfl,Nat.zero_add _,hL4,rfl,rfl,rfl,Z⟩
 intro n4 f w_ hI
 obtain ⟨i_2,suf4,left_3,rfl,hd4,hl4,hL4,sf0,sf1,sf5,Z⟩:=ik hI4 hI
 refine W_seq (sq (mF sf5 rfl (mF sf0 rfl (L_len rfl Tryd.underlying38 rfl (slice_len h0) (L_lss rfl rfl rfl (nn (W_cond (b:=decide ((i_2 : Int) < (a.length : Int))) rfl (fun hc5=>?_) (fun hc5=>?_))))))))
 have hlt4:=of_decide_eq_true hc5
 rcases suf4 with _ | ⟨x_4,rest4⟩
 exact absurd hlt4 (by simp at hl4; omega)
 obtain ⟨o4,hB4,hL4⟩:=range_cons hL4
 rw [l_szStepS_b1] at hB4
 have hix4:=drop_idx hd4
 refine W_skip (W_seq (W_block (W_seq ?_)))
 obtain ⟨x15,hx15,hB4⟩:=bind_some hB4
 refine W_region (mF sf0 rfl (mF sf5 rfl (L_ix (r:=(rStep 134)) rfl Tryd.underlying38 Tryd.sizeOf69 rfl h0 rfl hix4 (fun g17 o18 cs_g17 hrk_hat19 hat19=>?_))))
 obtain ⟨u20_0,rfl,hu20_0⟩:=rStep_iff.1 hrk_hat19
 refine L_lda (cs:=[I x_4.kind,I x_4.a,I x_4.b,u20_0,I x_4.given.bound]) rfl Tryd.isAgg69 Tryd.sizeOf69 rfl (At.sub (AtH.at hat19 Z.sub) 0 5) rfl (mF sf1 rfl ?_)
 obtain ⟨H21b,l22,s23,z24,k25⟩:=Z.borrow
 refine L_call rfl Tryd.call39 (ops2 rfl rfl) (l_szStep_c (a:=x_4) (left:=left_3) s23 (RP.mono _ hu20_0 l22) hx15) ?_
 rintro _ w26 ⟨rfl,Z⟩
 have Z:=k25 Z c0
 refine aI rfl (ns (mI rfl (L_lss rfl rfl rfl (nn (W_cond (b:=decide (x15 < 0)) rfl (fun hc27=>?_) (fun hc27=>?_))))))
 have hB4:=(ite_t hc27).symm.trans hB4
 refine sq (aI rfl (nn (W_ret (retG1 (v1:=I (-1)) Tryd.results14 rfl ?_))))
 obtain rfl:=so hB4
 obtain rfl:=so hL4
 obtain rfl:=so hF
 exact ⟨rfl,Z⟩
 have hB4:=(ite_f hc27).symm.trans hB4
 refine W_skip (W_region (mF sf5 rfl (L_add rfl rfl rfl (aI rfl (nn ?_)))))
 obtain rfl:=so hB4
 show ∃ m,m < _∧I4 m _ _
 refine ⟨rest4.length,by simp,?_⟩
 exact ij hI4 ⟨i_2 + 1,rest4,x15,rfl,drop_next hd4,by simp at hl4; omega,hL4,sf0,rfl,(Eq.trans rfl (congrArg (Value.int .i64) (i64_succ (n:=a.length) (by simp at hl4; omega) hlen4))),Z⟩
 rcases suf4 with _ | ⟨_,_⟩
 obtain rfl:=range_nil hL4
 refine W_exit (rj hR4 ⟨left_3,rfl,sf1,Z⟩)
 exact absurd (of_decide_eq_false hc5) (by simp at hl4; omega)
 intro f w_ hR
 obtain ⟨left_3,rfl,sf1,Z⟩:=rk hR4 hR
 refine sq (mF sf1 rfl (aI rfl (nn (W_ret (retG1 (v1:=I left_3) Tryd.results14 rfl ?_)))))
 obtain rfl:=so hF
 exact ⟨rfl,Z⟩
theorem s_l4Parts_c {s : Step} {v0_3 : Value} {H : FH} {w : World} (Z : Star H w []) (h0_3 : (rS 126 rTerm).rel H [v0_3] s.given.terms) {r : Bool} (hF : s_l4Parts s = some r) :
 C Tryd.prog 64 #[.agg #[I s.kind,I s.a,I s.b,v0_3,I s.given.bound]] w fun v w'=>v = Bo r∧Star H w' []:=by
 unfold s_l4Parts at hF
 refine C_enter Tryd.func64 rfl Tryd.ntmps64 rfl (sq (L_box (v:=.agg #[I s.kind,I s.a,I s.b,v0_3,I s.given.bound]) (cs:=#[I s.kind,I s.a,I s.b,v0_3,I s.given.bound]) rfl rfl rfl Z (fun g3 w4 Z=>aB rfl (nq ?_))))
 obtain ⟨R5,hR5⟩:=exR fun f w_=>f 1 = Pt g3∧f 3 = Bo (((s.given.terms.length : Int) == 0) && (s.given.bound == 0))∧Star H w_ ([box g3 75 #[I s.kind,I s.a,I s.b,v0_3,I s.given.bound]])
 refine W_join R5 ?_ ?_
 refine W_region (fA 3 fa_75_3 rfl rfl (fA 3 fa_73_0 rfl rfl (ldB 0 Z Tryd.isAgg71 rfl rfl rfl (L_len rfl Tryd.underlying71 rfl (slice_len h0_3) (L_eql rfl rfl rfl (mB rfl (L_split (d:=9) (b:=((s.given.terms.length : Int) == 0)) rfl (fun hc6=>?_) (fun hc6=>?_))))))))
 refine fA 3 fa_75_3 rfl rfl (fA 4 fa_73_1 rfl rfl (ldB 0 Z Tryd.isAgg3 rfl rfl rfl (L_eql rfl rfl rfl (L_pick (v:=Bo (((s.given.terms.length : Int) == 0) && (s.given.bound == 0))) rfl rfl (and_t hc6 rfl) (aB rfl (nn (rj hR5 ⟨rfl,rfl,Z⟩)))))))
 refine ps rfl (ps rfl (ps rfl (ps rfl (L_pick (v:=Bo (((s.given.terms.length : Int) == 0) && (s.given.bound == 0))) rfl rfl (and_f hc6) (aB rfl (nn (rj hR5 ⟨rfl,rfl,Z⟩)))))))
 intro f w_ hR
 obtain ⟨sf1,sf3,Z⟩:=rk hR5 hR
 refine W_seq (sq (fA 0 fa_75_0 sf1 rfl (ldB 0 Z Tryd.isAgg3 rfl rfl rfl (nn (W_block (W_seq (sq (L_eql rfl rfl rfl (aB rfl (nn ?_))))))))))
 obtain ⟨t17_7,hA8,hF⟩:=bind_some hF
 obtain ⟨R8,hR8⟩:=exR fun f w_=>f 1 = Pt g3∧f 3 = Bo (((s.given.terms.length : Int) == 0) && (s.given.bound == 0))∧f 16 = I s.kind∧f 17 = Bo t17_7∧Star H w_ ([box g3 75 #[I s.kind,I s.a,I s.b,v0_3,I s.given.bound]])
 refine W_join R8 ?_ ?_
 refine W_cond (b:=(s.kind == 1)) rfl (fun hc9=>?_) (fun hc9=>?_)
 have hA8:=(ite_t hc9).symm.trans hA8
 refine W_skip ?_
 obtain rfl:=so hA8
 exact rj hR8 ⟨sf1,sf3,rfl,rfl,Z⟩
 have hA8:=(ite_f hc9).symm.trans hA8
 refine sq (L_eql rfl rfl rfl (aB rfl (nn ?_)))
 obtain ⟨t17_10,hA11,hA8⟩:=bind_some hA8
 obtain ⟨R11,hR11⟩:=exR fun f w_=>f 1 = Pt g3∧f 3 = Bo (((s.given.terms.length : Int) == 0) && (s.given.bound == 0))∧f 16 = I s.kind∧f 17 = Bo t17_10∧Star H w_ ([box g3 75 #[I s.kind,I s.a,I s.b,v0_3,I s.given.bound]])
 refine W_join R11 ?_ ?_
 refine W_cond (b:=(s.kind == 2)) rfl (fun hc12=>?_) (fun hc12=>?_)
 have hA11:=(ite_t hc12).symm.trans hA11
 refine W_skip ?_
 obtain rfl:=so hA11
 exact rj hR11 ⟨sf1,sf3,rfl,rfl,Z⟩
 have hA11:=(ite_f hc12).symm.trans hA11
 refine sq (L_eql rfl rfl rfl (aB rfl (nn ?_)))
 obtain ⟨t17_13,hA14,hA11⟩:=bind_some hA11
 obtain ⟨R14,hR14⟩:=exR fun f w_=>f 1 = Pt g3∧f 3 = Bo (((s.given.terms.length : Int) == 0) && (s.given.bound == 0))∧f 16 = I s.kind∧f 17 = Bo t17_13∧Star H w_ ([box g3 75 #[I s.kind,I s.a,I s.b,v0_3,I s.given.bound]])
 refine W_join R14 ?_ ?_
 refine W_cond (b:=(s.kind == 3)) rfl (fun hc15=>?_) (fun hc15=>?_)
 have hA14:=(ite_t hc15).symm.trans hA14
 refine W_skip ?_
 obtain rfl:=so hA14
 exact rj hR14 ⟨sf1,sf3,rfl,rfl,Z⟩
 have hA14:=(ite_f hc15).symm.trans hA14
 refine W_region (L_eql rfl rfl rfl (aB rfl (nn ?_)))
 obtain rfl:=so hA14
 exact rj hR14 ⟨sf1,sf3,rfl,rfl,Z⟩
 intro f w_ hR
 obtain ⟨sf1,sf3,sf16,sf17,Z⟩:=rk hR14 hR
 obtain rfl:=so hA11
 exact rj hR11 ⟨sf1,sf3,sf16,sf17,Z⟩
 intro f w_ hR
 obtain ⟨sf1,sf3,sf16,sf17,Z⟩:=rk hR11 hR
 obtain rfl:=so hA8
 exact rj hR8 ⟨sf1,sf3,sf16,sf17,Z⟩
 intro f w_ hR
 obtain ⟨sf1,sf3,sf16,sf17,Z⟩:=rk hR8 hR
 refine W_cond (b:=t17_7) sf17 (fun hc16=>?_) (fun hc16=>?_)
 have hF:=(ite_t hc16).symm.trans hF
 refine sq (mF sf3 rfl (aB rfl (nn (W_ret (retG1 (v1:=Bo (((s.given.terms.length : Int) == 0) && (s.given.bound == 0))) Tryd.results64 rfl ?_)))))
 obtain rfl:=so hF
 exact ⟨rfl,(Star.keepN 0 Z)⟩
 have hF:=(ite_f hc16).symm.trans hF
 refine W_seq (sq (L_eql rfl sf16 rfl (aB rfl (nn ?_))))
 obtain ⟨t23_17,hA18,hF⟩:=bind_some hF
 obtain ⟨R18,hR18⟩:=exR fun f w_=>f 1 = Pt g3∧f 3 = Bo (((s.given.terms.length : Int) == 0) && (s.given.bound == 0))∧f 16 = I s.kind∧f 23 = Bo t23_17∧Star H w_ ([box g3 75 #[I s.kind,I s.a,I s.b,v0_3,I s.given.bound]])
 refine W_join R18 ?_ ?_
 refine W_cond (b:=(s.kind == 4)) rfl (fun hc19=>?_) (fun hc19=>?_)
 have hA18:=(ite_t hc19).symm.trans hA18
 refine W_skip ?_
 obtain rfl:=so hA18
 exact rj hR18 ⟨sf1,sf3,sf16,rfl,Z⟩
 have hA18:=(ite_f hc19).symm.trans hA18
 refine sq (L_eql rfl sf16 rfl (aB rfl (nn ?_)))
 obtain ⟨t23_20,hA21,hA18⟩:=bind_some hA18
 obtain ⟨R21,hR21⟩:=exR fun f w_=>f 1 = Pt g3∧f 3 = Bo (((s.given.terms.length : Int) == 0) && (s.given.bound == 0))∧f 16 = I s.kind∧f 23 = Bo t23_20∧Star H w_ ([box g3 75 #[I s.kind,I s.a,I s.b,v0_3,I s.given.bound]])
 refine W_join R21 ?_ ?_
 refine W_cond (b:=(s.kind == 6)) rfl (fun hc22=>?_) (fun hc22=>?_)
 have hA21:=(ite_t hc22).symm.trans hA21
 refine W_skip ?_
 obtain rfl:=so hA21
 exact rj hR21 ⟨sf1,sf3,sf16,rfl,Z⟩
 have hA21:=(ite_f hc22).symm.trans hA21
 refine W_region (L_eql rfl sf16 rfl (aB rfl (nn ?_)))
 obtain rfl:=so hA21
 exact rj hR21 ⟨sf1,sf3,sf16,rfl,Z⟩
 intro f w_ hR
 obtain ⟨sf1,sf3,sf16,sf23,Z⟩:=rk hR21 hR
 obtain rfl:=so hA18
 exact rj hR18 ⟨sf1,sf3,sf16,sf23,Z⟩
 intro f w_ hR
 obtain ⟨sf1,sf3,sf16,sf23,Z⟩:=rk hR18 hR
 refine W_cond (b:=t23_17) sf23 (fun hc23=>?_) (fun hc23=>?_)
 have hF:=(ite_t hc23).symm.trans hF
 refine W_seq ?_
 obtain ⟨R24,hR24⟩:=exR fun f w_=>f 2 = Bo ((((s.given.terms.length : Int) == 0) && (s.given.bound == 0)) && (s.b == 0))∧Star H w_ ([])
 refine W_join R24 ?_ ?_
 refine W_region (mF sf3 rfl (mB rfl (L_split (d:=28) (b:=(((s.given.terms.length : Int) == 0) && (s.given.bound == 0))) rfl (fun hc25=>?_) (fun hc25=>?_))))
 refine fA 2 fa_75_2 sf1 rfl (ldB 0 Z Tryd.isAgg3 rfl rfl rfl (L_eql rfl rfl rfl (L_pick (v:=Bo ((((s.given.terms.length : Int) == 0) && (s.given.bound == 0)) && (s.b == 0))) rfl rfl (and_t hc25 rfl) (aB rfl (nn (rj hR24 ⟨rfl,(Star.keepN 0 Z)⟩))))))
 refine ps rfl (ps rfl (ps rfl (L_pick (v:=Bo ((((s.given.terms.length : Int) == 0) && (s.given.bound == 0)) && (s.b == 0))) rfl rfl (and_f hc25) (aB rfl (nn (rj hR24 ⟨rfl,(Star.keepN 0 Z)⟩))))))
 intro f w_ hR
 obtain ⟨sf2,Z⟩:=rk hR24 hR
 refine W_ret (retG1 (v1:=Bo ((((s.given.terms.length : Int) == 0) && (s.given.bound == 0)) && (s.b == 0))) Tryd.results64 sf2 ?_)
 obtain rfl:=so hF
 exact ⟨rfl,Z⟩
 have hF:=(ite_f hc23).symm.trans hF
 refine sq (L_eql rfl sf16 rfl (aB rfl (nn (W_cond (b:=(s.kind == 7)) rfl (fun hc26=>?_) (fun hc26=>?_)))))
 have hF:=(ite_t hc26).symm.trans hF
 refine W_seq ?_
 obtain ⟨R27,hR27⟩:=exR fun f w_=>f 2 = Bo ((s.a == 0) && (s.b == 0))∧Star H w_ ([])
 refine W_join R27 ?_ ?_
 refine W_region (fA 1 fa_75_1 sf1 rfl (ldB 0 Z Tryd.isAgg3 rfl rfl rfl (L_eql rfl rfl rfl (mB rfl (L_split (d:=38) (b:=(s.a == 0)) rfl (fun hc28=>?_) (fun hc28=>?_))))))
 refine fA 2 fa_75_2 sf1 rfl (ldB 0 Z Tryd.isAgg3 rfl rfl rfl (L_eql rfl rfl rfl (L_pick (v:=Bo ((s.a == 0) && (s.b == 0))) rfl rfl (and_t hc28 rfl) (aB rfl (nn (rj hR27 ⟨rfl,(Star.keepN 0 Z)⟩))))))
 refine ps rfl (ps rfl (ps rfl (L_pick (v:=Bo ((s.a == 0) && (s.b == 0))) rfl rfl (and_f hc28) (aB rfl (nn (rj hR27 ⟨rfl,(Star.keepN 0 Z)⟩))))))
 intro f w_ hR
 obtain ⟨sf2,Z⟩:=rk hR27 hR
 refine W_ret (retG1 (v1:=Bo ((s.a == 0) && (s.b == 0))) Tryd.results64 sf2 ?_)
 obtain rfl:=so hF
 exact ⟨rfl,Z⟩
 have hF:=(ite_f hc26).symm.trans hF
 refine W_skip (sq (aB rfl (nn (W_ret (retG1 (v1:=Bo false) Tryd.results64 rfl ?_)))))
 obtain rfl:=so hF
 exact ⟨rfl,(Star.keepN 0 Z)⟩
theorem s_l4Words_c {H : FH} {w : World} (Z : Star H w []) {r : List ByteArray} (hF : s_l4Words = some r) :
 C Tryd.prog 65 #[] w fun v w'=>∃ (u1 : Value),v = u1∧Star H w' [oF 9 RP.str u1 r]:=by
 unfold s_l4Words at hF
 refine C_enter Tryd.func65 rfl Tryd.ntmps65 rfl (sq (aV S0 rfl (ns (L_bs rfl (parts9 rfl rfl rfl rfl rfl rfl rfl rfl rfl) (bs_104_9_0_0_0_0_0_0_0_0_0 (.string (⟨#[]⟩ : ByteArray)) (.string (⟨#[97,100,100]⟩ : ByteArray)) (.string (⟨#[109,117,108,116,105,112,108,121]⟩ : ByteArray)) (.string (⟨#[100,105,118,105,100,101]⟩ : ByteArray)) (.string (⟨#[115,97,116,117,114,97,116,101]⟩ : ByteArray)) (.string (⟨#[119,101,97,107,101,110]⟩ : ByteArray)) (.string (⟨#[108,105,116,101,114,97,108]⟩ : ByteArray)) (.string (⟨#[114,117,112]⟩ : ByteArray)) (.string (⟨#[100,101,108,101,116,101]⟩ : ByteArray)) rfl rfl rfl rfl rfl rfl rfl rfl rfl) Z (fun g4 w5 Z=>?_)))))
 have Z:=Star.addF (r:=RP.str) (cs:=[.string (⟨#[100,101,108,101,116,101]⟩ : ByteArray)]) (x:=(⟨#[100,101,108,101,116,101]⟩ : ByteArray)) Z rfl
 have Z:=Star.addF (r:=RP.str) (cs:=[.string (⟨#[114,117,112]⟩ : ByteArray)]) (x:=(⟨#[114,117,112]⟩ : ByteArray)) Z rfl
 have Z:=Star.addF (r:=RP.str) (cs:=[.string (⟨#[108,105,116,101,114,97,108]⟩ : ByteArray)]) (x:=(⟨#[108,105,116,101,114,97,108]⟩ : ByteArray)) Z rfl
 have Z:=Star.addF (r:=RP.str) (cs:=[.string (⟨#[119,101,97,107,101,110]⟩ : ByteArray)]) (x:=(⟨#[119,101,97,107,101,110]⟩ : ByteArray)) Z rfl
 have Z:=Star.addF (r:=RP.str) (cs:=[.string (⟨#[115,97,116,117,114,97,116,101]⟩ : ByteArray)]) (x:=(⟨#[115,97,116,117,114,97,116,101]⟩ : ByteArray)) Z rfl
 have Z:=Star.addF (r:=RP.str) (cs:=[.string (⟨#[100,105,118,105,100,101]⟩ : ByteArray)]) (x:=(⟨#[100,105,118,105,100,101]⟩ : ByteArray)) Z rfl
 have Z:=Star.addF (r:=RP.str) (cs:=[.string (⟨#[109,117,108,116,105,112,108,121]⟩ : ByteArray)]) (x:=(⟨#[109,117,108,116,105,112,108,121]⟩ : ByteArray)) Z rfl
 have Z:=Star.addF (r:=RP.str) (cs:=[.string (⟨#[97,100,100]⟩ : ByteArray)]) (x:=(⟨#[97,100,100]⟩ : ByteArray)) Z rfl
 have Z:=Star.addF (r:=RP.str) (cs:=[.string (⟨#[]⟩ : ByteArray)]) (x:=(⟨#[]⟩ : ByteArray)) Z rfl
 have Z:=Star.mkRow (R:=(OR.frz RP.str)) [([.string (⟨#[]⟩ : ByteArray)],(⟨#[]⟩ : ByteArray)),([.string (⟨#[97,100,100]⟩ : ByteArray)],(⟨#[97,100,100]⟩ : ByteArray)),([.string (⟨#[109,117,108,116,105,112,108,121]⟩ : ByteArray)],(⟨#[109,117,108,116,105,112,108,121]⟩ : ByteArray)),([.string (⟨#[100,105,118,105,100,101]⟩ : ByteArray)],(⟨#[100,105,118,105,100,101]⟩ : ByteArray)),([.string (⟨#[115,97,116,117,114,97,116,101]⟩ : ByteArray)],(⟨#[115,97,116,117,114,97,116,101]⟩ : ByteArray)),([.string (⟨#[119,101,97,107,101,110]⟩ : ByteArray)],(⟨#[119,101,97,107,101,110]⟩ : ByteArray)),([.string (⟨#[108,105,116,101,114,97,108]⟩ : ByteArray)],(⟨#[108,105,116,101,114,97,108]⟩ : ByteArray)),([.string (⟨#[114,117,112]⟩ : ByteArray)],(⟨#[114,117,112]⟩ : ByteArray)),([.string (⟨#[100,101,108,101,116,101]⟩ : ByteArray)],(⟨#[100,101,108,101,116,101]⟩ : ByteArray))] [(⟨#[]⟩ : ByteArray),(⟨#[97,100,100]⟩ : ByteArray),(⟨#[109,117,108,116,105,112,108,121]⟩ : ByteArray),(⟨#[100,105,118,105,100,101]⟩ : ByteArray),(⟨#[115,97,116,117,114,97,116,101]⟩ : ByteArray),(⟨#[119,101,97,107,101,110]⟩ : ByteArray),(⟨#[108,105,116,101,114,97,108]⟩ : ByteArray),(⟨#[114,117,112]⟩ : ByteArray),(⟨#[100,101,108,101,116,101]⟩ : ByteArray)] 9 Z rfl rfl rfl (by decide)
 refine aV (Sl g4 9 9) rfl (nn (W_ret (retG1 (v1:=(Sl g4 9 9)) Tryd.results65 rfl ?_)))
 obtain rfl:=so hF
 exact ⟨(Sl g4 9 9),rfl,Z⟩
theorem s_l1Lit_c {n_ : Int} {H : FH} {w : World} (Z : Star H w []) {r : Bool} (hF : s_l1Lit n_ = some r) :
 C Tryd.prog 68 #[I n_] w fun v w'=>v = Bo r∧Star H w' []:=by
 unfold s_l1Lit at hF
 refine C_enter Tryd.func68 rfl Tryd.ntmps68 rfl (sq (aB rfl (nq ?_)))
 obtain ⟨R1,hR1⟩:=exR fun f w_=>f 2 = Bo (((n_ != 0) && (decide (n_ ≥ (-12)))) && (decide (n_≤12)))∧Star H w_ ([])
 refine W_join R1 ?_ ?_
 refine W_region (mI rfl (L_neq rfl rfl rfl (mB rfl (L_split (d:=5) (b:=(n_ != 0)) rfl (fun hc2=>?_) (fun hc2=>?_)))))
 refine mI rfl (L_geq rfl rfl rfl (L_pick (v:=Bo ((n_ != 0) && (decide (n_ ≥ (-12))))) rfl rfl (and_t hc2 rfl) (mB rfl (L_split (d:=9) (b:=((n_ != 0) && (decide (n_ ≥ (-12))))) rfl (fun hc3=>?_) (fun hc3=>?_)))))
 refine mI rfl (L_leq rfl rfl rfl (L_pick (v:=Bo (((n_ != 0) && (decide (n_ ≥ (-12)))) && (decide (n_≤12)))) rfl rfl (and_t hc3 rfl) (aB rfl (nn (rj hR1 ⟨rfl,Z⟩)))))
 refine ps rfl (ps rfl (L_pick (v:=Bo (((n_ != 0) && (decide (n_ ≥ (-12)))) && (decide (n_≤12)))) rfl rfl (and_f hc3) (aB rfl (nn (rj hR1 ⟨rfl,Z⟩)))))
 refine ps rfl (ps rfl (L_pick (v:=Bo ((n_ != 0) && (decide (n_ ≥ (-12))))) rfl rfl (and_f hc2) (mB rfl (L_split (d:=9) (b:=((n_ != 0) && (decide (n_ ≥ (-12))))) rfl (fun hc4=>?_) (fun hc4=>?_)))))
 refine mI rfl (L_leq rfl rfl rfl (L_pick (v:=Bo (((n_ != 0) && (decide (n_ ≥ (-12)))) && (decide (n_≤12)))) rfl rfl (and_t hc4 rfl) (aB rfl (nn (rj hR1 ⟨rfl,Z⟩)))))
 refine ps rfl (ps rfl (L_pick (v:=Bo (((n_ != 0) && (decide (n_ ≥ (-12)))) && (decide (n_≤12)))) rfl rfl (and_f hc4) (aB rfl (nn (rj hR1 ⟨rfl,Z⟩)))))
 intro f w_ hR
 obtain ⟨sf2,Z⟩:=rk hR1 hR
 refine W_ret (retG1 (v1:=Bo (((n_ != 0) && (decide (n_ ≥ (-12)))) && (decide (n_≤12)))) Tryd.results68 sf2 ?_)
 obtain rfl:=so hF
 exact ⟨rfl,Z⟩
theorem s_l1Abs_c {n_ : Int} {H : FH} {w : World} (Z : Star H w []) {r : Int} (hF : s_l1Abs n_ = some r) :
 C Tryd.prog 97 #[I n_] w fun v w'=>v = I r∧Star H w' []:=by
 unfold s_l1Abs at hF
 refine C_enter Tryd.func97 rfl Tryd.ntmps97 rfl (sq (aI rfl (nq (sq (mI rfl (L_lss rfl rfl rfl (nn (W_cond (b:=decide (n_ < 0)) rfl (fun hc1=>?_) (fun hc1=>?_)))))))))
 have hF:=(ite_t hc1).symm.trans hF
 refine sq (mI rfl (L_neg rfl rfl (aI rfl (nn (W_ret (retG1 (v1:=I (i64 (-n_))) Tryd.results97 rfl ?_))))))
 obtain rfl:=so hF
 exact ⟨rfl,Z⟩
 have hF:=(ite_f hc1).symm.trans hF
 refine W_skip (sq (mI rfl (aI rfl (nn (W_ret (retG1 (v1:=I n_) Tryd.results97 rfl ?_))))))
 obtain rfl:=so hF
 exact ⟨rfl,Z⟩
theorem s_ConstraintValid_c {c : Con} {v0_0 : Value} {H : FH} {w : World} (Z : Star H w []) (h0_0 : (rS 126 rTerm).rel H [v0_0] c.terms) {r : Bool} (hF : s_ConstraintValid c = some r) :
 C Tryd.prog 66 #[.agg #[v0_0,I c.bound]] w fun v w'=>v = Bo r∧Star H w' []:=by
 unfold s_ConstraintValid at hF
 refine C_enter Tryd.func66 rfl Tryd.ntmps66 rfl (sq (L_box (v:=.agg #[v0_0,I c.bound]) (cs:=#[v0_0,I c.bound]) rfl rfl rfl Z (fun g3 w4 Z=>aB rfl (nq (sq (aI rfl (nn ?_)))))))
 have hlen8 : List.length c.terms≤9223372036854775807:=len_le (slice_len h0_0)
 obtain ⟨j8,hL8,hF⟩:=bind_some hF
 obtain ⟨R8,hR8⟩:=exR fun f w_=>∃ H6 : FH,j8 = .nx ()∧Le H H6∧f 1 = Pt g3∧Star H6 w_ ([box g3 73 #[v0_0,I c.bound]])
 refine W_join R8 ?_ ?_
 refine W_block ?_
 obtain ⟨I8,hI8⟩:=exI fun n f w_=>∃ i_5 : Nat,∃ suf8 : List Term,∃ H6 : FH,n = suf8.length∧List.drop i_5 c.terms = suf8∧i_5 + suf8.length = c.terms.length∧rangeL (s_ConstraintValid_b1 c) suf8 i_5 () = some j8∧Le H H6∧f 1 = Pt g3∧f 3 = I i_5∧Star H6 w_ ([box g3 73 #[v0_0,I c.bound]])
 refine W_loop I8 (n:=c.terms.length) ?_ ?_
 exact ij hI8 ⟨0,c.terms,H,rfl,rfl,Nat.zero_add _,hL8,(Le.refl _),rfl,rfl,Z⟩
 intro n8 f w_ hI
 obtain ⟨i_5,suf8,H6,rfl,hd8,hl8,hL8,l7,sf1,sf3,Z⟩:=ik hI8 hI
 refine W_seq (sq (mF sf3 rfl (fA 0 fa_73_0 sf1 rfl (ldB 0 Z Tryd.isAgg71 rfl rfl rfl (L_len rfl Tryd.underlying71 rfl (slice_len (RP.mono _ h0_0 l7)) (L_lss rfl rfl rfl (nn (W_cond (b:=decide ((i_5 : Int) < (c.terms.length : Int))) rfl (fun hc9=>?_) (fun hc9=>?_)))))))))
 have hlt8:=of_decide_eq_true hc9
 rcases suf8 with _ | ⟨x_8,rest8⟩
 exact absurd hlt8 (by simp at hl8; omega)
 obtain ⟨o8,hB8,hL8⟩:=range_cons hL8
 rw [s_ConstraintValid_b1] at hB8
 have hix8:=drop_idx hd8
 refine W_skip (W_seq (W_block (sq (fA 0 fa_73_0 sf1 rfl (ldB 0 Z Tryd.isAgg71 rfl rfl rfl (mF sf3 rfl (L_ix (r:=rTerm) rfl Tryd.underlying71 Tryd.sizeOf126 rfl (RP.mono _ h0_0 l7) rfl hix8 (fun g17 o18 cs_g17 hrk_hat19 hat19=>?_))))))))
 obtain rfl:=rTerm_iff.1 hrk_hat19
 refine L_lda (cs:=[I x_8.coef,I x_8.lit]) rfl Tryd.isAgg126 Tryd.sizeOf126 rfl (At.sub (AtH.at hat19 Z.sub) 0 2) rfl (L_al (cs:=#[I 0,I 0]) rfl Tryd.zeroValue126 rfl Z (fun g21 w22 Z=>L_staB (vs:=#[I x_8.coef,I x_8.lit]) (cs2:=#[I x_8.coef,I x_8.lit]) 0 rfl Tryd.sizeOf126 rfl rfl rfl (ones_cons rfl (ones_cons rfl ones_nil)) Z rfl (by show 0 + 2≤2; decide) rfl (fun w23 Z=>nq ?_)))
 obtain ⟨x29,hx29,hB8⟩:=bind_some hB8
 obtain ⟨b51,hb51,hB8⟩:=bind_some hB8
 obtain ⟨R55,hR55⟩:=exR fun f w_=>∃ H53 : FH,Le H6 H53∧f 1 = Pt g3∧f 3 = I i_5∧f 48 = Bo b51∧Star H53 w_ ([box g3 73 #[v0_0,I c.bound]])
 refine W_join R55 ?_ ?_
 rcases Bool.eq_false_or_eq_true (!x29) with hc56 | hc56
 rcases Bool.eq_false_or_eq_true ((!x29) || (decide (x_8.coef < 1))) with hc57 | hc57
 rcases Bool.eq_false_or_eq_true (((!x29) || (decide (x_8.coef < 1))) || (decide (x_8.coef > 1000))) with hc58 | hc58
 rw [ite_t hc58] at hb51
 refine W_drawS 28 [isV (Pq g21 1),isV (I x_8.lit),isV (Bo x29),isV (Bo (!x29)),isV (Bo (!x29)),isV (undef),isV (undef),isV (undef),isV (Bo ((!x29) || (decide (x_8.coef < 1)))),isV (Bo ((!x29) || (decide (x_8.coef < 1)))),isV (undef),isV (undef),isV (undef),isV (Bo (((!x29) || (decide (x_8.coef < 1))) || (decide (x_8.coef > 1000)))),isV (Bo (((!x29) || (decide (x_8.coef < 1))) || (decide (x_8.coef > 1000)))),isV (undef),isV (undef),isV (undef),isV (undef),isV (undef),isV (undef),isV (undef),isV (undef),isV (undef),isV (undef),isV (undef),isV (undef),isV (undef)] [box g21 126 #[I x_8.coef,I x_8.lit],box g3 73 #[v0_0,I c.bound]] [] ([]) [([],[]),([],[]),([],[]),([],[]),([],[]),([],[]),([],[]),([],[]),([],[]),([],[]),([],[]),([],[]),([],[]),([],[]),([],[]),([],[]),([],[]),([],[]),([],[]),([],[]),([],[]),([],[]),([],[]),([],[]),([],[]),([],[]),([],[]),([],[])] (S:=[]) Tryd_mix (by kernel_rfl) rfl (by kernel_rfl) (amF_cons (mono_V _) (amF_cons (mono_V _) (amF_cons (mono_V _) (amF_cons (mono_V _) (amF_cons (mono_V _) (amF_cons (mono_V _) (amF_cons (mono_V _) (amF_cons (mono_V _) (amF_cons (mono_V _) (amF_cons (mono_V _) (amF_cons (mono_V _) (amF_cons (mono_V _) (amF_cons (mono_V _) (amF_cons (mono_V _) (amF_cons (mono_V _) (amF_cons (mono_V _) (amF_cons (mono_V _) (amF_cons (mono_V _) (amF_cons (mono_V _) (amF_cons (mono_V _) (amF_cons (mono_V _) (amF_cons (mono_V _) (amF_cons (mono_V _) (amF_cons (mono_V _) (amF_cons (mono_V _) (amF_cons (mono_V _) (amF_cons (mono_V _) (amF_cons (mono_V _) amF_nil)))))))))))))))))))))))))))) Z ?_ (fun f w_ H52 hS52 hE52 hT52 Z=>?_)
 refine opsS_cons (fun f w_ _ _ s _ _ Z=>fA 1 fa_126_1 ((s 4 rfl).trans rfl) rfl (nO rfl rfl Z)) (opsS_cons (fun f w_ _ _ _ _ p Z=>ldB 0 Z Tryd.isAgg3 (p 0 17 rfl rfl) rfl rfl (nO rfl rfl Z)) (opsS_cons ?_ ?_))
 intro f w_ H52 X52 hS52 hE52 hP52 Z
 obtain ⟨H65b,l66,s67,z68,k69⟩:=Z.borrow
 refine L_call rfl Tryd.call68 (ops1 (hP52 1 18 rfl rfl)) (s_l1Lit_c (n_:=x_8.lit) s67 hx29) ?_
 rintro _ w70 ⟨rfl,Z⟩
 have Z:=k69 Z c0
 exact L_nil ⟨rfl,_,_,rfl,Le.refl _,fun _ _=>rfl,Z⟩
 refine opsS_cons (fun f w_ _ _ _ _ p Z=>L_not_ rfl (p 2 19 rfl rfl) (nO rfl rfl Z)) (opsS_cons (fun f w_ _ _ _ _ p Z=>mF (p 3 20 rfl rfl) rfl (nO rfl rfl Z)) (oP (fun _ _ p=>gN (p 4 21 rfl rfl) hc56 rfl) (fun _=>rfl) (oP (fun _ _ p=>gN (p 4 21 rfl rfl) hc56 rfl) (fun _=>rfl) (oP (fun _ _ p=>gN (p 4 21 rfl rfl) hc56 rfl) (fun _=>rfl) (opsS_cons (fun f w_ _ _ _ _ p Z=>pkT (v:=Bo ((!x29) || (decide (x_8.coef < 1)))) (p 4 21 rfl rfl) hc56 rfl (or_t hc56) (nO rfl rfl Z)) (opsS_cons (fun f w_ _ _ _ _ p Z=>mF (p 8 25 rfl rfl) rfl (nO rfl rfl Z)) (oP (fun _ _ p=>gN (p 9 26 rfl rfl) hc57 rfl) (fun _=>rfl) (oP (fun _ _ p=>gN (p 9 26 rfl rfl) hc57 rfl) (fun _=>rfl) (oP (fun _ _ p=>gN (p 9 26 rfl rfl) hc57 rfl) (fun _=>rfl) (opsS_cons (fun f w_ _ _ _ _ p Z=>pkT (v:=Bo (((!x29) || (decide (x_8.coef < 1))) || (decide (x_8.coef > 1000)))) (p 9 26 rfl rfl) hc57 rfl (or_t hc57) (nO rfl rfl Z)) (opsS_cons (fun f w_ _ _ _ _ p Z=>mF (p 13 30 rfl rfl) rfl (nO rfl rfl Z)) (oP (fun _ _ p=>gN (p 14 31 rfl rfl) hc58 rfl) (fun _=>rfl) (oP (fun _ _ p=>gN (p 14 31 rfl rfl) hc58 rfl) (fun _=>rfl) (oP (fun _ _ p=>gN (p 14 31 rfl rfl) hc58 rfl) (fun _=>rfl) (oP (fun _ _ p=>g_undef rfl (p 17 34 rfl rfl) rfl) (fun _=>rfl) (oP (fun _ _ p=>g_undef rfl (p 17 34 rfl rfl) rfl) (fun _=>rfl) (oP (fun _ _ p=>g_undef rfl (p 17 34 rfl rfl) rfl) (fun _=>rfl) (oP (fun _ _ p=>g_undef rfl (p 17 34 rfl rfl) rfl) (fun _=>rfl) (oP (fun _ _ p=>g_undef rfl (p 17 34 rfl rfl) rfl) (fun _=>rfl) (oP (fun _ _ p=>g_undef rfl (p 17 34 rfl rfl) rfl) (fun _=>rfl) (oP (fun _ _ p=>g_undef rfl (p 17 34 rfl rfl) rfl) (fun _=>rfl) (oP (fun _ _ p=>g_undef rfl (p 17 34 rfl rfl) rfl) (fun _=>rfl) (oP (fun _ _ p=>g_undef rfl (p 17 34 rfl rfl) rfl) (fun _=>rfl) (oP (fun _ _ p=>g_undef rfl (p 17 34 rfl rfl) rfl) (fun _=>rfl) (opsS_nil)))))))))))))))))))))))))
 refine ps (g_undef rfl (hT52 17 34 rfl rfl) rfl) (ps (g_undef rfl (hT52 17 34 rfl rfl) rfl) (ps (g_no rfl (Eq.trans (hT52 14 31 rfl rfl) (congrArg Value.bool hc58)) rfl rfl) (L_pick (v:=Bo b51) rfl (Eq.trans (hT52 14 31 rfl rfl) (congrArg Value.bool hc58)) (congrArg Value.bool (so hb51)) (nn ?_))))
 have Z:=Z.get 1 rfl
 exact rj hR55 ⟨H52,hE52,((hS52 1 rfl).trans sf1),((hS52 3 rfl).trans sf3),rfl,(Star.keepN 1 Z)⟩
 rw [ite_f hc58] at hb51
 obtain ⟨b50,hb50,hb51⟩:=bind_some hb51
 rcases Bool.eq_false_or_eq_true (decide ((i_5 : Int) > 0)) with hc71 | hc71
 rw [ite_t hc71] at hb50
 obtain ⟨x31,hx31,hb50⟩:=bind_some hb50
 obtain ⟨x41,hx41,hb50⟩:=bind_some hb50
 obtain ⟨x48,hx48,hb50⟩:=bind_some hb50
 refine W_drawS 28 [isV (Pq g21 1),isV (I x_8.lit),isV (Bo x29),isV (Bo (!x29)),isV (Bo (!x29)),isV (undef),isV (undef),isV (undef),isV (Bo ((!x29) || (decide (x_8.coef < 1)))),isV (Bo ((!x29) || (decide (x_8.coef < 1)))),isV (undef),isV (undef),isV (undef),isV (Bo (((!x29) || (decide (x_8.coef < 1))) || (decide (x_8.coef > 1000)))),isV (Bo (((!x29) || (decide (x_8.coef < 1))) || (decide (x_8.coef > 1000)))),isV (I i_5),isV (Bo (decide ((i_5 : Int) > 0))),isV (Bo (decide ((i_5 : Int) > 0))),isV (Pt g3),isV (v0_0),isV (I i_5),isV (I (i64 ((i_5 : Int) - 1))),isEl rTerm x31 0,isEl rTerm x31 1,isV (I x31.lit),isV (I x41),isV (Pq g21 1),isV (I x_8.lit)] [box g21 126 #[I x_8.coef,I x_8.lit],box g3 73 #[v0_0,I c.bound]] [] ([]) [([],[]),([],[]),([],[]),([],[]),([],[]),([],[]),([],[]),([],[]),([],[]),([],[]),([],[]),([],[]),([],[]),([],[]),([],[]),([],[]),([],[]),([],[]),([],[]),([],[]),([],[]),([],[]),([],[]),([],[]),([],[]),([],[]),([],[]),([],[])] (S:=[]) Tryd_mix (by kernel_rfl) rfl (by kernel_rfl) (amF_cons (mono_V _) (amF_cons (mono_V _) (amF_cons (mono_V _) (amF_cons (mono_V _) (amF_cons (mono_V _) (amF_cons (mono_V _) (amF_cons (mono_V _) (amF_cons (mono_V _) (amF_cons (mono_V _) (amF_cons (mono_V _) (amF_cons (mono_V _) (amF_cons (mono_V _) (amF_cons (mono_V _) (amF_cons (mono_V _) (amF_cons (mono_V _) (amF_cons (mono_V _) (amF_cons (mono_V _) (amF_cons (mono_V _) (amF_cons (mono_V _) (amF_cons (mono_V _) (amF_cons (mono_V _) (amF_cons (mono_V _) (amF_cons (mono_el _ _ _) (amF_cons (mono_el _ _ _) (amF_cons (mono_V _) (amF_cons (mono_V _) (amF_cons (mono_V _) (amF_cons (mono_V _) amF_nil)))))))))))))))))))))))))))) Z ?_ (fun f w_ H52 hS52 hE52 hT52 Z=>?_)
 refine opsS_cons (fun f w_ _ _ s _ _ Z=>fA 1 fa_126_1 ((s 4 rfl).trans rfl) rfl (nO rfl rfl Z)) (opsS_cons (fun f w_ _ _ _ _ p Z=>ldB 0 Z Tryd.isAgg3 (p 0 17 rfl rfl) rfl rfl (nO rfl rfl Z)) (opsS_cons ?_ ?_))
 intro f w_ H52 X52 hS52 hE52 hP52 Z
 obtain ⟨H88b,l89,s90,z91,k92⟩:=Z.borrow
 refine L_call rfl Tryd.call68 (ops1 (hP52 1 18 rfl rfl)) (s_l1Lit_c (n_:=x_8.lit) s90 hx29) ?_
 rintro _ w93 ⟨rfl,Z⟩
 have Z:=k92 Z c0
 exact L_nil ⟨rfl,_,_,rfl,Le.refl _,fun _ _=>rfl,Z⟩
 refine opsS_cons (fun f w_ _ _ _ _ p Z=>L_not_ rfl (p 2 19 rfl rfl) (nO rfl rfl Z)) (opsS_cons (fun f w_ _ _ _ _ p Z=>mF (p 3 20 rfl rfl) rfl (nO rfl rfl Z)) (oP (fun _ _ p=>gN (p 4 21 rfl rfl) hc56 rfl) (fun _=>rfl) (oP (fun _ _ p=>gN (p 4 21 rfl rfl) hc56 rfl) (fun _=>rfl) (oP (fun _ _ p=>gN (p 4 21 rfl rfl) hc56 rfl) (fun _=>rfl) (opsS_cons (fun f w_ _ _ _ _ p Z=>pkT (v:=Bo ((!x29) || (decide (x_8.coef < 1)))) (p 4 21 rfl rfl) hc56 rfl (or_t hc56) (nO rfl rfl Z)) (opsS_cons (fun f w_ _ _ _ _ p Z=>mF (p 8 25 rfl rfl) rfl (nO rfl rfl Z)) (oP (fun _ _ p=>gN (p 9 26 rfl rfl) hc57 rfl) (fun _=>rfl) (oP (fun _ _ p=>gN (p 9 26 rfl rfl) hc57 rfl) (fun _=>rfl) (oP (fun _ _ p=>gN (p 9 26 rfl rfl) hc57 rfl) (fun _=>rfl) (opsS_cons (fun f w_ _ _ _ _ p Z=>pkT (v:=Bo (((!x29) || (decide (x_8.coef < 1))) || (decide (x_8.coef > 1000)))) (p 9 26 rfl rfl) hc57 rfl (or_t hc57) (nO rfl rfl Z)) (opsS_cons (fun f w_ _ _ _ _ p Z=>mF (p 13 30 rfl rfl) rfl (nO rfl rfl Z)) (opsS_cons (fun f w_ _ _ s _ p Z=>L_mv (v:=I i_5) (g_yes rfl (Eq.trans (p 14 31 rfl rfl) (congrArg Value.bool hc58)) rfl) ((s 3 rfl).trans sf3) (nO rfl rfl Z)) (opsS_cons (fun f w_ _ _ _ _ p Z=>L_gtr (g_yes rfl (Eq.trans (p 14 31 rfl rfl) (congrArg Value.bool hc58)) rfl) (p 15 32 rfl rfl) rfl (nO rfl rfl Z)) (opsS_cons (fun f w_ _ _ _ _ p Z=>L_mv (v:=Bo (decide ((i_5 : Int) > 0))) (g_yes rfl (Eq.trans (p 14 31 rfl rfl) (congrArg Value.bool hc58)) rfl) (p 16 33 rfl rfl) (nO rfl rfl Z)) (opsS_cons (fun f w_ _ _ s _ p Z=>L_fa (o':=0) (g_yes rfl (Eq.trans (p 17 34 rfl rfl) (congrArg Value.bool hc71)) rfl) fa_73_0 ((s 1 rfl).trans sf1) rfl (nO rfl rfl Z)) (opsS_cons (fun f w_ _ _ _ _ p Z=>L_ld (v:=v0_0) (g_yes rfl (Eq.trans (p 17 34 rfl rfl) (congrArg Value.bool hc71)) rfl) Tryd.isAgg71 (p 18 35 rfl rfl) (At.cell0 (Blk.at (Star.blkAt 1 Z rfl)) (j:=0) rfl) (nO rfl rfl Z)) (opsS_cons (fun f w_ _ _ s _ p Z=>L_mv (v:=I i_5) (g_yes rfl (Eq.trans (p 17 34 rfl rfl) (congrArg Value.bool hc71)) rfl) ((s 3 rfl).trans sf3) (nO rfl rfl Z)) (opsS_cons (fun f w_ _ _ _ _ p Z=>L_sub (g_yes rfl (Eq.trans (p 17 34 rfl rfl) (congrArg Value.bool hc71)) rfl) (p 20 37 rfl rfl) rfl (nO rfl rfl Z)) (opsS_cons ?_ ?_)))))))))))))))))))
 intro f w_ H52 X52 hS52 hE52 hP52 Z
 refine L_ix (r:=rTerm) (g_yes rfl (Eq.trans (hP52 17 34 rfl rfl) (congrArg Value.bool hc71)) rfl) Tryd.underlying71 Tryd.sizeOf126 (hP52 19 36 rfl rfl) (RP.mono _ h0_0 (Le.trans l7 hE52)) (hP52 21 38 rfl rfl) hx31 (fun g94 o95 cs_g94 hrk_hat96 hat96=>?_)
 obtain rfl:=rTerm_iff.1 hrk_hat96
 exact L_nil ⟨rfl,_,_,rfl,Le.refl _,fun _ _=>⟨_,_,_,rfl,hrk_hat96,hat96⟩,Z⟩
 refine opsS_cons ?_ ?_
 intro f w_ H52 X52 hS52 hE52 hP52 Z
 obtain ⟨g98,o98,cs98,hv98,hrk_hat98,hat98⟩:=(hP52 22 39 rfl rfl)
 obtain rfl:=rTerm_iff.1 hrk_hat98
 refine L_fa (o':=o98 + 1) (g_yes rfl (Eq.trans (hP52 17 34 rfl rfl) (congrArg Value.bool hc71)) rfl) fa_126_1 hv98 rfl (L_nil ⟨rfl,_,_,rfl,Le.refl _,fun _ _=>⟨_,_,_,rfl,hrk_hat98,hat98⟩,Z⟩)
 refine opsS_cons ?_ ?_
 intro f w_ H52 X52 hS52 hE52 hP52 Z
 obtain ⟨g100,o100,cs100,hv100,hrk_hat100,hat100⟩:=(hP52 23 40 rfl rfl)
 obtain rfl:=rTerm_iff.1 hrk_hat100
 refine L_ld (v:=I x31.lit) (g_yes rfl (Eq.trans (hP52 17 34 rfl rfl) (congrArg Value.bool hc71)) rfl) Tryd.isAgg3 hv100 (At.cell (AtH.at hat100 Z.sub) (j:=1) rfl) (L_nil ⟨rfl,_,_,rfl,Le.refl _,fun _ _=>rfl,Z⟩)
 refine opsS_cons ?_ ?_
 intro f w_ H52 X52 hS52 hE52 hP52 Z
 obtain ⟨H102b,l103,s104,z105,k106⟩:=Z.borrow
 refine L_call (g_yes rfl (Eq.trans (hP52 17 34 rfl rfl) (congrArg Value.bool hc71)) rfl) Tryd.call97 (ops1 (hP52 24 41 rfl rfl)) (s_l1Abs_c (n_:=x31.lit) s104 hx41) ?_
 rintro _ w107 ⟨rfl,Z⟩
 have Z:=k106 Z c0
 exact L_nil ⟨rfl,_,_,rfl,Le.refl _,fun _ _=>rfl,Z⟩
 refine opsS_cons (fun f w_ _ _ s _ p Z=>L_fa (o':=1) (g_yes rfl (Eq.trans (p 17 34 rfl rfl) (congrArg Value.bool hc71)) rfl) fa_126_1 ((s 4 rfl).trans rfl) rfl (nO rfl rfl Z)) (opsS_cons (fun f w_ _ _ _ _ p Z=>L_ld (v:=I x_8.lit) (g_yes rfl (Eq.trans (p 17 34 rfl rfl) (congrArg Value.bool hc71)) rfl) Tryd.isAgg3 (p 26 43 rfl rfl) (At.cell0 (Blk.at (Star.blkAt 0 Z rfl)) (j:=1) rfl) (nO rfl rfl Z)) (opsS_nil))
 obtain ⟨H108b,l109,s110,z111,k112⟩:=Z.borrow
 refine L_call (g_yes rfl (Eq.trans (hT52 17 34 rfl rfl) (congrArg Value.bool hc71)) rfl) Tryd.call97 (ops1 (hT52 27 44 rfl rfl)) (s_l1Abs_c (n_:=x_8.lit) s110 hx48) ?_
 rintro _ w113 ⟨rfl,Z⟩
 have Z:=k112 Z c0
 refine L_geq (g_yes rfl (Eq.trans (hT52 17 34 rfl rfl) (congrArg Value.bool hc71)) rfl) (hT52 25 42 rfl rfl) rfl (L_pick (v:=Bo b50) (g_yes rfl (Eq.trans (hT52 14 31 rfl rfl) (congrArg Value.bool hc58)) rfl) (Eq.trans (hT52 17 34 rfl rfl) (congrArg Value.bool hc71)) (congrArg Value.bool (so hb50)) (L_pick (v:=Bo b51) rfl (Eq.trans (hT52 14 31 rfl rfl) (congrArg Value.bool hc58)) (congrArg Value.bool (so hb51)) (nn ?_)))
 have Z:=Z.get 1 rfl
 exact rj hR55 ⟨H52,hE52,((hS52 1 rfl).trans sf1),((hS52 3 rfl).trans sf3),rfl,(Star.keepN 1 Z)⟩
 rw [ite_f hc71] at hb50
 refine W_drawS 28 [isV (Pq g21 1),isV (I x_8.lit),isV (Bo x29),isV (Bo (!x29)),isV (Bo (!x29)),isV (undef),isV (undef),isV (undef),isV (Bo ((!x29) || (decide (x_8.coef < 1)))),isV (Bo ((!x29) || (decide (x_8.coef < 1)))),isV (undef),isV (undef),isV (undef),isV (Bo (((!x29) || (decide (x_8.coef < 1))) || (decide (x_8.coef > 1000)))),isV (Bo (((!x29) || (decide (x_8.coef < 1))) || (decide (x_8.coef > 1000)))),isV (I i_5),isV (Bo (decide ((i_5 : Int) > 0))),isV (Bo (decide ((i_5 : Int) > 0))),isV (undef),isV (undef),isV (undef),isV (undef),isV (undef),isV (undef),isV (undef),isV (undef),isV (undef),isV (undef)] [box g21 126 #[I x_8.coef,I x_8.lit],box g3 73 #[v0_0,I c.bound]] [] ([]) [([],[]),([],[]),([],[]),([],[]),([],[]),([],[]),([],[]),([],[]),([],[]),([],[]),([],[]),([],[]),([],[]),([],[]),([],[]),([],[]),([],[]),([],[]),([],[]),([],[]),([],[]),([],[]),([],[]),([],[]),([],[]),([],[]),([],[]),([],[])] (S:=[]) Tryd_mix (by kernel_rfl) rfl (by kernel_rfl) (amF_cons (mono_V _) (amF_cons (mono_V _) (amF_cons (mono_V _) (amF_cons (mono_V _) (amF_cons (mono_V _) (amF_cons (mono_V _) (amF_cons (mono_V _) (amF_cons (mono_V _) (amF_cons (mono_V _) (amF_cons (mono_V _) (amF_cons (mono_V _) (amF_cons (mono_V _) (amF_cons (mono_V _) (amF_cons (mono_V _) (amF_cons (mono_V _) (amF_cons (mono_V _) (amF_cons (mono_V _) (amF_cons (mono_V _) (amF_cons (mono_V _) (amF_cons (mono_V _) (amF_cons (mono_V _) (amF_cons (mono_V _) (amF_cons (mono_V _) (amF_cons (mono_V _) (amF_cons (mono_V _) (amF_cons (mono_V _) (amF_cons (mono_V _) (amF_cons (mono_V _) amF_nil)))))))))))))))))))))))))))) Z ?_ (fun f w_ H52 hS52 hE52 hT52 Z=>?_)
 refine opsS_cons (fun f w_ _ _ s _ _ Z=>fA 1 fa_126_1 ((s 4 rfl).trans rfl) rfl (nO rfl rfl Z)) (opsS_cons (fun f w_ _ _ _ _ p Z=>ldB 0 Z Tryd.isAgg3 (p 0 17 rfl rfl) rfl rfl (nO rfl rfl Z)) (opsS_cons ?_ ?_))
 intro f w_ H52 X52 hS52 hE52 hP52 Z
 obtain ⟨H120b,l121,s122,z123,k124⟩:=Z.borrow
 refine L_call rfl Tryd.call68 (ops1 (hP52 1 18 rfl rfl)) (s_l1Lit_c (n_:=x_8.lit) s122 hx29) ?_
 rintro _ w125 ⟨rfl,Z⟩
 have Z:=k124 Z c0
 exact L_nil ⟨rfl,_,_,rfl,Le.refl _,fun _ _=>rfl,Z⟩
 refine opsS_cons (fun f w_ _ _ _ _ p Z=>L_not_ rfl (p 2 19 rfl rfl) (nO rfl rfl Z)) (opsS_cons (fun f w_ _ _ _ _ p Z=>mF (p 3 20 rfl rfl) rfl (nO rfl rfl Z)) (oP (fun _ _ p=>gN (p 4 21 rfl rfl) hc56 rfl) (fun _=>rfl) (oP (fun _ _ p=>gN (p 4 21 rfl rfl) hc56 rfl) (fun _=>rfl) (oP (fun _ _ p=>gN (p 4 21 rfl rfl) hc56 rfl) (fun _=>rfl) (opsS_cons (fun f w_ _ _ _ _ p Z=>pkT (v:=Bo ((!x29) || (decide (x_8.coef < 1)))) (p 4 21 rfl rfl) hc56 rfl (or_t hc56) (nO rfl rfl Z)) (opsS_cons (fun f w_ _ _ _ _ p Z=>mF (p 8 25 rfl rfl) rfl (nO rfl rfl Z)) (oP (fun _ _ p=>gN (p 9 26 rfl rfl) hc57 rfl) (fun _=>rfl) (oP (fun _ _ p=>gN (p 9 26 rfl rfl) hc57 rfl) (fun _=>rfl) (oP (fun _ _ p=>gN (p 9 26 rfl rfl) hc57 rfl) (fun _=>rfl) (opsS_cons (fun f w_ _ _ _ _ p Z=>pkT (v:=Bo (((!x29) || (decide (x_8.coef < 1))) || (decide (x_8.coef > 1000)))) (p 9 26 rfl rfl) hc57 rfl (or_t hc57) (nO rfl rfl Z)) (opsS_cons (fun f w_ _ _ _ _ p Z=>mF (p 13 30 rfl rfl) rfl (nO rfl rfl Z)) (opsS_cons (fun f w_ _ _ s _ p Z=>L_mv (v:=I i_5) (g_yes rfl (Eq.trans (p 14 31 rfl rfl) (congrArg Value.bool hc58)) rfl) ((s 3 rfl).trans sf3) (nO rfl rfl Z)) (opsS_cons (fun f w_ _ _ _ _ p Z=>L_gtr (g_yes rfl (Eq.trans (p 14 31 rfl rfl) (congrArg Value.bool hc58)) rfl) (p 15 32 rfl rfl) rfl (nO rfl rfl Z)) (opsS_cons (fun f w_ _ _ _ _ p Z=>L_mv (v:=Bo (decide ((i_5 : Int) > 0))) (g_yes rfl (Eq.trans (p 14 31 rfl rfl) (congrArg Value.bool hc58)) rfl) (p 16 33 rfl rfl) (nO rfl rfl Z)) (oP (fun _ _ p=>gN (p 17 34 rfl rfl) hc71 rfl) (fun _=>rfl) (oP (fun _ _ p=>gN (p 17 34 rfl rfl) hc71 rfl) (fun _=>rfl) (oP (fun _ _ p=>gN (p 17 34 rfl rfl) hc71 rfl) (fun _=>rfl) (oP (fun _ _ p=>gN (p 17 34 rfl rfl) hc71 rfl) (fun _=>rfl) (oP (fun _ _ p=>gN (p 17 34 rfl rfl) hc71 rfl) (fun _=>rfl) (oP (fun _ _ p=>gN (p 17 34 rfl rfl) hc71 rfl) (fun _=>rfl) (oP (fun _ _ p=>gN (p 17 34 rfl rfl) hc71 rfl) (fun _=>rfl) (oP (fun _ _ p=>gN (p 17 34 rfl rfl) hc71 rfl) (fun _=>rfl) (oP (fun _ _ p=>gN (p 17 34 rfl rfl) hc71 rfl) (fun _=>rfl) (oP (fun _ _ p=>gN (p 17 34 rfl rfl) hc71 rfl) (fun _=>rfl) (opsS_nil)))))))))))))))))))))))))
 refine ps (g_no rfl (Eq.trans (hT52 17 34 rfl rfl) (congrArg Value.bool hc71)) rfl rfl) (ps (g_no rfl (Eq.trans (hT52 17 34 rfl rfl) (congrArg Value.bool hc71)) rfl rfl) (L_pick (v:=Bo b50) (g_yes rfl (Eq.trans (hT52 14 31 rfl rfl) (congrArg Value.bool hc58)) rfl) (Eq.trans (hT52 17 34 rfl rfl) (congrArg Value.bool hc71)) (congrArg Value.bool (so hb50)) (L_pick (v:=Bo b51) rfl (Eq.trans (hT52 14 31 rfl rfl) (congrArg Value.bool hc58)) (congrArg Value.bool (so hb51)) (nn ?_))))
 have Z:=Z.get 1 rfl
 exact rj hR55 ⟨H52,hE52,((hS52 1 rfl).trans sf1),((hS52 3 rfl).trans sf3),rfl,(Star.keepN 1 Z)⟩
 rcases Bool.eq_false_or_eq_true (((!x29) || (decide (x_8.coef < 1))) || (decide (x_8.coef > 1000))) with hc126 | hc126
 rw [ite_t hc126] at hb51
 refine W_drawS 28 [isV (Pq g21 1),isV (I x_8.lit),isV (Bo x29),isV (Bo (!x29)),isV (Bo (!x29)),isV (undef),isV (undef),isV (undef),isV (Bo ((!x29) || (decide (x_8.coef < 1)))),isV (Bo ((!x29) || (decide (x_8.coef < 1)))),isV (Pt g21),isV (I x_8.coef),isV (Bo (decide (x_8.coef > 1000))),isV (Bo (((!x29) || (decide (x_8.coef < 1))) || (decide (x_8.coef > 1000)))),isV (Bo (((!x29) || (decide (x_8.coef < 1))) || (decide (x_8.coef > 1000)))),isV (undef),isV (undef),isV (undef),isV (undef),isV (undef),isV (undef),isV (undef),isV (undef),isV (undef),isV (undef),isV (undef),isV (undef),isV (undef)] [box g21 126 #[I x_8.coef,I x_8.lit],box g3 73 #[v0_0,I c.bound]] [] ([]) [([],[]),([],[]),([],[]),([],[]),([],[]),([],[]),([],[]),([],[]),([],[]),([],[]),([],[]),([],[]),([],[]),([],[]),([],[]),([],[]),([],[]),([],[]),([],[]),([],[]),([],[]),([],[]),([],[]),([],[]),([],[]),([],[]),([],[]),([],[])] (S:=[]) Tryd_mix (by kernel_rfl) rfl (by kernel_rfl) (amF_cons (mono_V _) (amF_cons (mono_V _) (amF_cons (mono_V _) (amF_cons (mono_V _) (amF_cons (mono_V _) (amF_cons (mono_V _) (amF_cons (mono_V _) (amF_cons (mono_V _) (amF_cons (mono_V _) (amF_cons (mono_V _) (amF_cons (mono_V _) (amF_cons (mono_V _) (amF_cons (mono_V _) (amF_cons (mono_V _) (amF_cons (mono_V _) (amF_cons (mono_V _) (amF_cons (mono_V _) (amF_cons (mono_V _) (amF_cons (mono_V _) (amF_cons (mono_V _) (amF_cons (mono_V _) (amF_cons (mono_V _) (amF_cons (mono_V _) (amF_cons (mono_V _) (amF_cons (mono_V _) (amF_cons (mono_V _) (amF_cons (mono_V _) (amF_cons (mono_V _) amF_nil)))))))))))))))))))))))))))) Z ?_ (fun f w_ H52 hS52 hE52 hT52 Z=>?_)
 refine opsS_cons (fun f w_ _ _ s _ _ Z=>fA 1 fa_126_1 ((s 4 rfl).trans rfl) rfl (nO rfl rfl Z)) (opsS_cons (fun f w_ _ _ _ _ p Z=>ldB 0 Z Tryd.isAgg3 (p 0 17 rfl rfl) rfl rfl (nO rfl rfl Z)) (opsS_cons ?_ ?_))
 intro f w_ H52 X52 hS52 hE52 hP52 Z
 obtain ⟨H133b,l134,s135,z136,k137⟩:=Z.borrow
 refine L_call rfl Tryd.call68 (ops1 (hP52 1 18 rfl rfl)) (s_l1Lit_c (n_:=x_8.lit) s135 hx29) ?_
 rintro _ w138 ⟨rfl,Z⟩
 have Z:=k137 Z c0
 exact L_nil ⟨rfl,_,_,rfl,Le.refl _,fun _ _=>rfl,Z⟩
 refine opsS_cons (fun f w_ _ _ _ _ p Z=>L_not_ rfl (p 2 19 rfl rfl) (nO rfl rfl Z)) (opsS_cons (fun f w_ _ _ _ _ p Z=>mF (p 3 20 rfl rfl) rfl (nO rfl rfl Z)) (oP (fun _ _ p=>gN (p 4 21 rfl rfl) hc56 rfl) (fun _=>rfl) (oP (fun _ _ p=>gN (p 4 21 rfl rfl) hc56 rfl) (fun _=>rfl) (oP (fun _ _ p=>gN (p 4 21 rfl rfl) hc56 rfl) (fun _=>rfl) (opsS_cons (fun f w_ _ _ _ _ p Z=>pkT (v:=Bo ((!x29) || (decide (x_8.coef < 1)))) (p 4 21 rfl rfl) hc56 rfl (or_t hc56) (nO rfl rfl Z)) (opsS_cons (fun f w_ _ _ _ _ p Z=>mF (p 8 25 rfl rfl) rfl (nO rfl rfl Z)) (opsS_cons (fun f w_ _ _ s _ p Z=>L_fa (o':=0) (g_yes rfl (Eq.trans (p 9 26 rfl rfl) (congrArg Value.bool hc57)) rfl) fa_126_0 ((s 4 rfl).trans rfl) rfl (nO rfl rfl Z)) (opsS_cons (fun f w_ _ _ _ _ p Z=>L_ld (v:=I x_8.coef) (g_yes rfl (Eq.trans (p 9 26 rfl rfl) (congrArg Value.bool hc57)) rfl) Tryd.isAgg3 (p 10 27 rfl rfl) (At.cell0 (Blk.at (Star.blkAt 0 Z rfl)) (j:=0) rfl) (nO rfl rfl Z)) (opsS_cons (fun f w_ _ _ _ _ p Z=>L_gtr (g_yes rfl (Eq.trans (p 9 26 rfl rfl) (congrArg Value.bool hc57)) rfl) (p 11 28 rfl rfl) rfl (nO rfl rfl Z)) (opsS_cons (fun f w_ _ _ _ _ p Z=>pkT (v:=Bo (((!x29) || (decide (x_8.coef < 1))) || (decide (x_8.coef > 1000)))) (p 9 26 rfl rfl) hc57 rfl (or_f hc57 (p 12 29 rfl rfl)) (nO rfl rfl Z)) (opsS_cons (fun f w_ _ _ _ _ p Z=>mF (p 13 30 rfl rfl) rfl (nO rfl rfl Z)) (oP (fun _ _ p=>gN (p 14 31 rfl rfl) hc126 rfl) (fun _=>rfl) (oP (fun _ _ p=>gN (p 14 31 rfl rfl) hc126 rfl) (fun _=>rfl) (oP (fun _ _ p=>gN (p 14 31 rfl rfl) hc126 rfl) (fun _=>rfl) (oP (fun _ _ p=>g_undef rfl (p 17 34 rfl rfl) rfl) (fun _=>rfl) (oP (fun _ _ p=>g_undef rfl (p 17 34 rfl rfl) rfl) (fun _=>rfl) (oP (fun _ _ p=>g_undef rfl (p 17 34 rfl rfl) rfl) (fun _=>rfl) (oP (fun _ _ p=>g_undef rfl (p 17 34 rfl rfl) rfl) (fun _=>rfl) (oP (fun _ _ p=>g_undef rfl (p 17 34 rfl rfl) rfl) (fun _=>rfl) (oP (fun _ _ p=>g_undef rfl (p 17 34 rfl rfl) rfl) (fun _=>rfl) (oP (fun _ _ p=>g_undef rfl (p 17 34 rfl rfl) rfl) (fun _=>rfl) (oP (fun _ _ p=>g_undef rfl (p 17 34 rfl rfl) rfl) (fun _=>rfl) (oP (fun _ _ p=>g_undef rfl (p 17 34 rfl rfl) rfl) (fun _=>rfl) (oP (fun _ _ p=>g_undef rfl (p 17 34 rfl rfl) rfl) (fun _=>rfl) (opsS_nil)))))))))))))))))))))))))
 refine ps (g_undef rfl (hT52 17 34 rfl rfl) rfl) (ps (g_undef rfl (hT52 17 34 rfl rfl) rfl) (ps (g_no rfl (Eq.trans (hT52 14 31 rfl rfl) (congrArg Value.bool hc126)) rfl rfl) (L_pick (v:=Bo b51) rfl (Eq.trans (hT52 14 31 rfl rfl) (congrArg Value.bool hc126)) (congrArg Value.bool (so hb51)) (nn ?_))))
 have Z:=Z.get 1 rfl
 exact rj hR55 ⟨H52,hE52,((hS52 1 rfl).trans sf1),((hS52 3 rfl).trans sf3),rfl,(Star.keepN 1 Z)⟩
 rw [ite_f hc126] at hb51
 obtain ⟨b50,hb50,hb51⟩:=bind_some hb51
 rcases Bool.eq_false_or_eq_true (decide ((i_5 : Int) > 0)) with hc139 | hc139
 rw [ite_t hc139] at hb50
 obtain ⟨x31,hx31,hb50⟩:=bind_some hb50
 obtain ⟨x41,hx41,hb50⟩:=bind_some hb50
 obtain ⟨x48,hx48,hb50⟩:=bind_some hb50
 refine W_drawS 28 [isV (Pq g21 1),isV (I x_8.lit),isV (Bo x29),isV (Bo (!x29)),isV (Bo (!x29)),isV (undef),isV (undef),isV (undef),isV (Bo ((!x29) || (decide (x_8.coef < 1)))),isV (Bo ((!x29) || (decide (x_8.coef < 1)))),isV (Pt g21),isV (I x_8.coef),isV (Bo (decide (x_8.coef > 1000))),isV (Bo (((!x29) || (decide (x_8.coef < 1))) || (decide (x_8.coef > 1000)))),isV (Bo (((!x29) || (decide (x_8.coef < 1))) || (decide (x_8.coef > 1000)))),isV (I i_5),isV (Bo (decide ((i_5 : Int) > 0))),isV (Bo (decide ((i_5 : Int) > 0))),isV (Pt g3),isV (v0_0),isV (I i_5),isV (I (i64 ((i_5 : Int) - 1))),isEl rTerm x31 0,isEl rTerm x31 1,isV (I x31.lit),isV (I x41),isV (Pq g21 1),isV (I x_8.lit)] [box g21 126 #[I x_8.coef,I x_8.lit],box g3 73 #[v0_0,I c.bound]] [] ([]) [([],[]),([],[]),([],[]),([],[]),([],[]),([],[]),([],[]),([],[]),([],[]),([],[]),([],[]),([],[]),([],[]),([],[]),([],[]),([],[]),([],[]),([],[]),([],[]),([],[]),([],[]),([],[]),([],[]),([],[]),([],[]),([],[]),([],[]),([],[])] (S:=[]) Tryd_mix (by kernel_rfl) rfl (by kernel_rfl) (amF_cons (mono_V _) (amF_cons (mono_V _) (amF_cons (mono_V _) (amF_cons (mono_V _) (amF_cons (mono_V _) (amF_cons (mono_V _) (amF_cons (mono_V _) (amF_cons (mono_V _) (amF_cons (mono_V _) (amF_cons (mono_V _) (amF_cons (mono_V _) (amF_cons (mono_V _) (amF_cons (mono_V _) (amF_cons (mono_V _) (amF_cons (mono_V _) (amF_cons (mono_V _) (amF_cons (mono_V _) (amF_cons (mono_V _) (amF_cons (mono_V _) (amF_cons (mono_V _) (amF_cons (mono_V _) (amF_cons (mono_V _) (amF_cons (mono_el _ _ _) (amF_cons (mono_el _ _ _) (amF_cons (mono_V _) (amF_cons (mono_V _) (amF_cons (mono_V _) (amF_cons (mono_V _) amF_nil)))))))))))))))))))))))))))) Z ?_ (fun f w_ H52 hS52 hE52 hT52 Z=>?_)
 refine opsS_cons (fun f w_ _ _ s _ _ Z=>fA 1 fa_126_1 ((s 4 rfl).trans rfl) rfl (nO rfl rfl Z)) (opsS_cons (fun f w_ _ _ _ _ p Z=>ldB 0 Z Tryd.isAgg3 (p 0 17 rfl rfl) rfl rfl (nO rfl rfl Z)) (opsS_cons ?_ ?_))
 intro f w_ H52 X52 hS52 hE52 hP52 Z
 obtain ⟨H156b,l157,s158,z159,k160⟩:=Z.borrow
 refine L_call rfl Tryd.call68 (ops1 (hP52 1 18 rfl rfl)) (s_l1Lit_c (n_:=x_8.lit) s158 hx29) ?_
 rintro _ w161 ⟨rfl,Z⟩
 have Z:=k160 Z c0
 exact L_nil ⟨rfl,_,_,rfl,Le.refl _,fun _ _=>rfl,Z⟩
 refine opsS_cons (fun f w_ _ _ _ _ p Z=>L_not_ rfl (p 2 19 rfl rfl) (nO rfl rfl Z)) (opsS_cons (fun f w_ _ _ _ _ p Z=>mF (p 3 20 rfl rfl) rfl (nO rfl rfl Z)) (oP (fun _ _ p=>gN (p 4 21 rfl rfl) hc56 rfl) (fun _=>rfl) (oP (fun _ _ p=>gN (p 4 21 rfl rfl) hc56 rfl) (fun _=>rfl) (oP (fun _ _ p=>gN (p 4 21 rfl rfl) hc56 rfl) (fun _=>rfl) (opsS_cons (fun f w_ _ _ _ _ p Z=>pkT (v:=Bo ((!x29) || (decide (x_8.coef < 1)))) (p 4 21 rfl rfl) hc56 rfl (or_t hc56) (nO rfl rfl Z)) (opsS_cons (fun f w_ _ _ _ _ p Z=>mF (p 8 25 rfl rfl) rfl (nO rfl rfl Z)) (opsS_cons (fun f w_ _ _ s _ p Z=>L_fa (o':=0) (g_yes rfl (Eq.trans (p 9 26 rfl rfl) (congrArg Value.bool hc57)) rfl) fa_126_0 ((s 4 rfl).trans rfl) rfl (nO rfl rfl Z)) (opsS_cons (fun f w_ _ _ _ _ p Z=>L_ld (v:=I x_8.coef) (g_yes rfl (Eq.trans (p 9 26 rfl rfl) (congrArg Value.bool hc57)) rfl) Tryd.isAgg3 (p 10 27 rfl rfl) (At.cell0 (Blk.at (Star.blkAt 0 Z rfl)) (j:=0) rfl) (nO rfl rfl Z)) (opsS_cons (fun f w_ _ _ _ _ p Z=>L_gtr (g_yes rfl (Eq.trans (p 9 26 rfl rfl) (congrArg Value.bool hc57)) rfl) (p 11 28 rfl rfl) rfl (nO rfl rfl Z)) (opsS_cons (fun f w_ _ _ _ _ p Z=>pkT (v:=Bo (((!x29) || (decide (x_8.coef < 1))) || (decide (x_8.coef > 1000)))) (p 9 26 rfl rfl) hc57 rfl (or_f hc57 (p 12 29 rfl rfl)) (nO rfl rfl Z)) (opsS_cons (fun f w_ _ _ _ _ p Z=>mF (p 13 30 rfl rfl) rfl (nO rfl rfl Z)) (opsS_cons (fun f w_ _ _ s _ p Z=>L_mv (v:=I i_5) (g_yes rfl (Eq.trans (p 14 31 rfl rfl) (congrArg Value.bool hc126)) rfl) ((s 3 rfl).trans sf3) (nO rfl rfl Z)) (opsS_cons (fun f w_ _ _ _ _ p Z=>L_gtr (g_yes rfl (Eq.trans (p 14 31 rfl rfl) (congrArg Value.bool hc126)) rfl) (p 15 32 rfl rfl) rfl (nO rfl rfl Z)) (opsS_cons (fun f w_ _ _ _ _ p Z=>L_mv (v:=Bo (decide ((i_5 : Int) > 0))) (g_yes rfl (Eq.trans (p 14 31 rfl rfl) (congrArg Value.bool hc126)) rfl) (p 16 33 rfl rfl) (nO rfl rfl Z)) (opsS_cons (fun f w_ _ _ s _ p Z=>L_fa (o':=0) (g_yes rfl (Eq.trans (p 17 34 rfl rfl) (congrArg Value.bool hc139)) rfl) fa_73_0 ((s 1 rfl).trans sf1) rfl (nO rfl rfl Z)) (opsS_cons (fun f w_ _ _ _ _ p Z=>L_ld (v:=v0_0) (g_yes rfl (Eq.trans (p 17 34 rfl rfl) (congrArg Value.bool hc139)) rfl) Tryd.isAgg71 (p 18 35 rfl rfl) (At.cell0 (Blk.at (Star.blkAt 1 Z rfl)) (j:=0) rfl) (nO rfl rfl Z)) (opsS_cons (fun f w_ _ _ s _ p Z=>L_mv (v:=I i_5) (g_yes rfl (Eq.trans (p 17 34 rfl rfl) (congrArg Value.bool hc139)) rfl) ((s 3 rfl).trans sf3) (nO rfl rfl Z)) (opsS_cons (fun f w_ _ _ _ _ p Z=>L_sub (g_yes rfl (Eq.trans (p 17 34 rfl rfl) (congrArg Value.bool hc139)) rfl) (p 20 37 rfl rfl) rfl (nO rfl rfl Z)) (opsS_cons ?_ ?_)))))))))))))))))))
 intro f w_ H52 X52 hS52 hE52 hP52 Z
 refine L_ix (r:=rTerm) (g_yes rfl (Eq.trans (hP52 17 34 rfl rfl) (congrArg Value.bool hc139)) rfl) Tryd.underlying71 Tryd.sizeOf126 (hP52 19 36 rfl rfl) (RP.mono _ h0_0 (Le.trans l7 hE52)) (hP52 21 38 rfl rfl) hx31 (fun g162 o163 cs_g162 hrk_hat164 hat164=>?_)
 obtain rfl:=rTerm_iff.1 hrk_hat164
 exact L_nil ⟨rfl,_,_,rfl,Le.refl _,fun _ _=>⟨_,_,_,rfl,hrk_hat164,hat164⟩,Z⟩
 refine opsS_cons ?_ ?_
 intro f w_ H52 X52 hS52 hE52 hP52 Z
 obtain ⟨g166,o166,cs166,hv166,hrk_hat166,hat166⟩:=(hP52 22 39 rfl rfl)
 obtain rfl:=rTerm_iff.1 hrk_hat166
 refine L_fa (o':=o166 + 1) (g_yes rfl (Eq.trans (hP52 17 34 rfl rfl) (congrArg Value.bool hc139)) rfl) fa_126_1 hv166 rfl (L_nil ⟨rfl,_,_,rfl,Le.refl _,fun _ _=>⟨_,_,_,rfl,hrk_hat166,hat166⟩,Z⟩)
 refine opsS_cons ?_ ?_
 intro f w_ H52 X52 hS52 hE52 hP52 Z
 obtain ⟨g168,o168,cs168,hv168,hrk_hat168,hat168⟩:=(hP52 23 40 rfl rfl)
 obtain rfl:=rTerm_iff.1 hrk_hat168
 refine L_ld (v:=I x31.lit) (g_yes rfl (Eq.trans (hP52 17 34 rfl rfl) (congrArg Value.bool hc139)) rfl) Tryd.isAgg3 hv168 (At.cell (AtH.at hat168 Z.sub) (j:=1) rfl) (L_nil ⟨rfl,_,_,rfl,Le.refl _,fun _ _=>rfl,Z⟩)
 refine opsS_cons ?_ ?_
 intro f w_ H52 X52 hS52 hE52 hP52 Z
 obtain ⟨H170b,l171,s172,z173,k174⟩:=Z.borrow
 refine L_call (g_yes rfl (Eq.trans (hP52 17 34 rfl rfl) (congrArg Value.bool hc139)) rfl) Tryd.call97 (ops1 (hP52 24 41 rfl rfl)) (s_l1Abs_c (n_:=x31.lit) s172 hx41) ?_
 rintro _ w175 ⟨rfl,Z⟩
 have Z:=k174 Z c0
 exact L_nil ⟨rfl,_,_,rfl,Le.refl _,fun _ _=>rfl,Z⟩
 refine opsS_cons (fun f w_ _ _ s _ p Z=>L_fa (o':=1) (g_yes rfl (Eq.trans (p 17 34 rfl rfl) (congrArg Value.bool hc139)) rfl) fa_126_1 ((s 4 rfl).trans rfl) rfl (nO rfl rfl Z)) (opsS_cons (fun f w_ _ _ _ _ p Z=>L_ld (v:=I x_8.lit) (g_yes rfl (Eq.trans (p 17 34 rfl rfl) (congrArg Value.bool hc139)) rfl) Tryd.isAgg3 (p 26 43 rfl rfl) (At.cell0 (Blk.at (Star.blkAt 0 Z rfl)) (j:=1) rfl) (nO rfl rfl Z)) (opsS_nil))
 obtain ⟨H176b,l177,s178,z179,k180⟩:=Z.borrow
 refine L_call (g_yes rfl (Eq.trans (hT52 17 34 rfl rfl) (congrArg Value.bool hc139)) rfl) Tryd.call97 (ops1 (hT52 27 44 rfl rfl)) (s_l1Abs_c (n_:=x_8.lit) s178 hx48) ?_
 rintro _ w181 ⟨rfl,Z⟩
 have Z:=k180 Z c0
 refine L_geq (g_yes rfl (Eq.trans (hT52 17 34 rfl rfl) (congrArg Value.bool hc139)) rfl) (hT52 25 42 rfl rfl) rfl (L_pick (v:=Bo b50) (g_yes rfl (Eq.trans (hT52 14 31 rfl rfl) (congrArg Value.bool hc126)) rfl) (Eq.trans (hT52 17 34 rfl rfl) (congrArg Value.bool hc139)) (congrArg Value.bool (so hb50)) (L_pick (v:=Bo b51) rfl (Eq.trans (hT52 14 31 rfl rfl) (congrArg Value.bool hc126)) (congrArg Value.bool (so hb51)) (nn ?_)))
 have Z:=Z.get 1 rfl
 exact rj hR55 ⟨H52,hE52,((hS52 1 rfl).trans sf1),((hS52 3 rfl).trans sf3),rfl,(Star.keepN 1 Z)⟩
 rw [ite_f hc139] at hb50
 refine W_drawS 28 [isV (Pq g21 1),isV (I x_8.lit),isV (Bo x29),isV (Bo (!x29)),isV (Bo (!x29)),isV (undef),isV (undef),isV (undef),isV (Bo ((!x29) || (decide (x_8.coef < 1)))),isV (Bo ((!x29) || (decide (x_8.coef < 1)))),isV (Pt g21),isV (I x_8.coef),isV (Bo (decide (x_8.coef > 1000))),isV (Bo (((!x29) || (decide (x_8.coef < 1))) || (decide (x_8.coef > 1000)))),isV (Bo (((!x29) || (decide (x_8.coef < 1))) || (decide (x_8.coef > 1000)))),isV (I i_5),isV (Bo (decide ((i_5 : Int) > 0))),isV (Bo (decide ((i_5 : Int) > 0))),isV (undef),isV (undef),isV (undef),isV (undef),isV (undef),isV (undef),isV (undef),isV (undef),isV (undef),isV (undef)] [box g21 126 #[I x_8.coef,I x_8.lit],box g3 73 #[v0_0,I c.bound]] [] ([]) [([],[]),([],[]),([],[]),([],[]),([],[]),([],[]),([],[]),([],[]),([],[]),([],[]),([],[]),([],[]),([],[]),([],[]),([],[]),([],[]),([],[]),([],[]),([],[]),([],[]),([],[]),([],[]),([],[]),([],[]),([],[]),([],[]),([],[]),([],[])] (S:=[]) Tryd_mix (by kernel_rfl) rfl (by kernel_rfl) (amF_cons (mono_V _) (amF_cons (mono_V _) (amF_cons (mono_V _) (amF_cons (mono_V _) (amF_cons (mono_V _) (amF_cons (mono_V _) (amF_cons (mono_V _) (amF_cons (mono_V _) (amF_cons (mono_V _) (amF_cons (mono_V _) (amF_cons (mono_V _) (amF_cons (mono_V _) (amF_cons (mono_V _) (amF_cons (mono_V _) (amF_cons (mono_V _) (amF_cons (mono_V _) (amF_cons (mono_V _) (amF_cons (mono_V _) (amF_cons (mono_V _) (amF_cons (mono_V _) (amF_cons (mono_V _) (amF_cons (mono_V _) (amF_cons (mono_V _) (amF_cons (mono_V _) (amF_cons (mono_V _) (amF_cons (mono_V _) (amF_cons (mono_V _) (amF_cons (mono_V _) amF_nil)))))))))))))))))))))))))))) Z ?_ (fun f w_ H52 hS52 hE52 hT52 Z=>?_)
 refine opsS_cons (fun f w_ _ _ s _ _ Z=>fA 1 fa_126_1 ((s 4 rfl).trans rfl) rfl (nO rfl rfl Z)) (opsS_cons (fun f w_ _ _ _ _ p Z=>ldB 0 Z Tryd.isAgg3 (p 0 17 rfl rfl) rfl rfl (nO rfl rfl Z)) (opsS_cons ?_ ?_))
 intro f w_ H52 X52 hS52 hE52 hP52 Z
 obtain ⟨H188b,l189,s190,z191,k192⟩:=Z.borrow
 refine L_call rfl Tryd.call68 (ops1 (hP52 1 18 rfl rfl)) (s_l1Lit_c (n_:=x_8.lit) s190 hx29) ?_
 rintro _ w193 ⟨rfl,Z⟩
 have Z:=k192 Z c0
 exact L_nil ⟨rfl,_,_,rfl,Le.refl _,fun _ _=>rfl,Z⟩
 refine opsS_cons (fun f w_ _ _ _ _ p Z=>L_not_ rfl (p 2 19 rfl rfl) (nO rfl rfl Z)) (opsS_cons (fun f w_ _ _ _ _ p Z=>mF (p 3 20 rfl rfl) rfl (nO rfl rfl Z)) (oP (fun _ _ p=>gN (p 4 21 rfl rfl) hc56 rfl) (fun _=>rfl) (oP (fun _ _ p=>gN (p 4 21 rfl rfl) hc56 rfl) (fun _=>rfl) (oP (fun _ _ p=>gN (p 4 21 rfl rfl) hc56 rfl) (fun _=>rfl) (opsS_cons (fun f w_ _ _ _ _ p Z=>pkT (v:=Bo ((!x29) || (decide (x_8.coef < 1)))) (p 4 21 rfl rfl) hc56 rfl (or_t hc56) (nO rfl rfl Z)) (opsS_cons (fun f w_ _ _ _ _ p Z=>mF (p 8 25 rfl rfl) rfl (nO rfl rfl Z)) (opsS_cons (fun f w_ _ _ s _ p Z=>L_fa (o':=0) (g_yes rfl (Eq.trans (p 9 26 rfl rfl) (congrArg Value.bool hc57)) rfl) fa_126_0 ((s 4 rfl).trans rfl) rfl (nO rfl rfl Z)) (opsS_cons (fun f w_ _ _ _ _ p Z=>L_ld (v:=I x_8.coef) (g_yes rfl (Eq.trans (p 9 26 rfl rfl) (congrArg Value.bool hc57)) rfl) Tryd.isAgg3 (p 10 27 rfl rfl) (At.cell0 (Blk.at (Star.blkAt 0 Z rfl)) (j:=0) rfl) (nO rfl rfl Z)) (opsS_cons (fun f w_ _ _ _ _ p Z=>L_gtr (g_yes rfl (Eq.trans (p 9 26 rfl rfl) (congrArg Value.bool hc57)) rfl) (p 11 28 rfl rfl) rfl (nO rfl rfl Z)) (opsS_cons (fun f w_ _ _ _ _ p Z=>pkT (v:=Bo (((!x29) || (decide (x_8.coef < 1))) || (decide (x_8.coef > 1000)))) (p 9 26 rfl rfl) hc57 rfl (or_f hc57 (p 12 29 rfl rfl)) (nO rfl rfl Z)) (opsS_cons (fun f w_ _ _ _ _ p Z=>mF (p 13 30 rfl rfl) rfl (nO rfl rfl Z)) (opsS_cons (fun f w_ _ _ s _ p Z=>L_mv (v:=I i_5) (g_yes rfl (Eq.trans (p 14 31 rfl rfl) (congrArg Value.bool hc126)) rfl) ((s 3 rfl).trans sf3) (nO rfl rfl Z)) (opsS_cons (fun f w_ _ _ _ _ p Z=>L_gtr (g_yes rfl (Eq.trans (p 14 31 rfl rfl) (congrArg Value.bool hc126)) rfl) (p 15 32 rfl rfl) rfl (nO rfl rfl Z)) (opsS_cons (fun f w_ _ _ _ _ p Z=>L_mv (v:=Bo (decide ((i_5 : Int) > 0))) (g_yes rfl (Eq.trans (p 14 31 rfl rfl) (congrArg Value.bool hc126)) rfl) (p 16 33 rfl rfl) (nO rfl rfl Z)) (oP (fun _ _ p=>gN (p 17 34 rfl rfl) hc139 rfl) (fun _=>rfl) (oP (fun _ _ p=>gN (p 17 34 rfl rfl) hc139 rfl) (fun _=>rfl) (oP (fun _ _ p=>gN (p 17 34 rfl rfl) hc139 rfl) (fun _=>rfl) (oP (fun _ _ p=>gN (p 17 34 rfl rfl) hc139 rfl) (fun _=>rfl) (oP (fun _ _ p=>gN (p 17 34 rfl rfl) hc139 rfl) (fun _=>rfl) (oP (fun _ _ p=>gN (p 17 34 rfl rfl) hc139 rfl) (fun _=>rfl) (oP (fun _ _ p=>gN (p 17 34 rfl rfl) hc139 rfl) (fun _=>rfl) (oP (fun _ _ p=>gN (p 17 34 rfl rfl) hc139 rfl) (fun _=>rfl) (oP (fun _ _ p=>gN (p 17 34 rfl rfl) hc139 rfl) (fun _=>rfl) (oP (fun _ _ p=>gN (p 17 34 rfl rfl) hc139 rfl) (fun _=>rfl) (opsS_nil)))))))))))))))))))))))))
 refine ps (g_no rfl (Eq.trans (hT52 17 34 rfl rfl) (congrArg Value.bool hc139)) rfl rfl) (ps (g_no rfl (Eq.trans (hT52 17 34 rfl rfl) (congrArg Value.bool hc139)) rfl rfl) (L_pick (v:=Bo b50) (g_yes rfl (Eq.trans (hT52 14 31 rfl rfl) (congrArg Value.bool hc126)) rfl) (Eq.trans (hT52 17 34 rfl rfl) (congrArg Value.bool hc139)) (congrArg Value.bool (so hb50)) (L_pick (v:=Bo b51) rfl (Eq.trans (hT52 14 31 rfl rfl) (congrArg Value.bool hc126)) (congrArg Value.bool (so hb51)) (nn ?_))))
 have Z:=Z.get 1 rfl
 exact rj hR55 ⟨H52,hE52,((hS52 1 rfl).trans sf1),((hS52 3 rfl).trans sf3),rfl,(Star.keepN 1 Z)⟩
 rcases Bool.eq_false_or_eq_true ((!x29) || (decide (x_8.coef < 1))) with hc194 | hc194
 rcases Bool.eq_false_or_eq_true (((!x29) || (decide (x_8.coef < 1))) || (decide (x_8.coef > 1000))) with hc195 | hc195
 rw [ite_t hc195] at hb51
 refine W_drawS 28 [isV (Pq g21 1),isV (I x_8.lit),isV (Bo x29),isV (Bo (!x29)),isV (Bo (!x29)),isV (Pt g21),isV (I x_8.coef),isV (Bo (decide (x_8.coef < 1))),isV (Bo ((!x29) || (decide (x_8.coef < 1)))),isV (Bo ((!x29) || (decide (x_8.coef < 1)))),isV (undef),isV (undef),isV (undef),isV (Bo (((!x29) || (decide (x_8.coef < 1))) || (decide (x_8.coef > 1000)))),isV (Bo (((!x29) || (decide (x_8.coef < 1))) || (decide (x_8.coef > 1000)))),isV (undef),isV (undef),isV (undef),isV (undef),isV (undef),isV (undef),isV (undef),isV (undef),isV (undef),isV (undef),isV (undef),isV (undef),isV (undef)] [box g21 126 #[I x_8.coef,I x_8.lit],box g3 73 #[v0_0,I c.bound]] [] ([]) [([],[]),([],[]),([],[]),([],[]),([],[]),([],[]),([],[]),([],[]),([],[]),([],[]),([],[]),([],[]),([],[]),([],[]),([],[]),([],[]),([],[]),([],[]),([],[]),([],[]),([],[]),([],[]),([],[]),([],[]),([],[]),([],[]),([],[]),([],[])] (S:=[]) Tryd_mix (by kernel_rfl) rfl (by kernel_rfl) (amF_cons (mono_V _) (amF_cons (mono_V _) (amF_cons (mono_V _) (amF_cons (mono_V _) (amF_cons (mono_V _) (amF_cons (mono_V _) (amF_cons (mono_V _) (amF_cons (mono_V _) (amF_cons (mono_V _) (amF_cons (mono_V _) (amF_cons (mono_V _) (amF_cons (mono_V _) (amF_cons (mono_V _) (amF_cons (mono_V _) (amF_cons (mono_V _) (amF_cons (mono_V _) (amF_cons (mono_V _) (amF_cons (mono_V _) (amF_cons (mono_V _) (amF_cons (mono_V _) (amF_cons (mono_V _) (amF_cons (mono_V _) (amF_cons (mono_V _) (amF_cons (mono_V _) (amF_cons (mono_V _) (amF_cons (mono_V _) (amF_cons (mono_V _) (amF_cons (mono_V _) amF_nil)))))))))))))))))))))))))))) Z ?_ (fun f w_ H52 hS52 hE52 hT52 Z=>?_)
 refine opsS_cons (fun f w_ _ _ s _ _ Z=>fA 1 fa_126_1 ((s 4 rfl).trans rfl) rfl (nO rfl rfl Z)) (opsS_cons (fun f w_ _ _ _ _ p Z=>ldB 0 Z Tryd.isAgg3 (p 0 17 rfl rfl) rfl rfl (nO rfl rfl Z)) (opsS_cons ?_ ?_))
 intro f w_ H52 X52 hS52 hE52 hP52 Z
 obtain ⟨H202b,l203,s204,z205,k206⟩:=Z.borrow
 refine L_call rfl Tryd.call68 (ops1 (hP52 1 18 rfl rfl)) (s_l1Lit_c (n_:=x_8.lit) s204 hx29) ?_
 rintro _ w207 ⟨rfl,Z⟩
 have Z:=k206 Z c0
 exact L_nil ⟨rfl,_,_,rfl,Le.refl _,fun _ _=>rfl,Z⟩
 refine opsS_cons (fun f w_ _ _ _ _ p Z=>L_not_ rfl (p 2 19 rfl rfl) (nO rfl rfl Z)) (opsS_cons (fun f w_ _ _ _ _ p Z=>mF (p 3 20 rfl rfl) rfl (nO rfl rfl Z)) (opsS_cons (fun f w_ _ _ s _ p Z=>L_fa (o':=0) (g_yes rfl (Eq.trans (p 4 21 rfl rfl) (congrArg Value.bool hc56)) rfl) fa_126_0 ((s 4 rfl).trans rfl) rfl (nO rfl rfl Z)) (opsS_cons (fun f w_ _ _ _ _ p Z=>L_ld (v:=I x_8.coef) (g_yes rfl (Eq.trans (p 4 21 rfl rfl) (congrArg Value.bool hc56)) rfl) Tryd.isAgg3 (p 5 22 rfl rfl) (At.cell0 (Blk.at (Star.blkAt 0 Z rfl)) (j:=0) rfl) (nO rfl rfl Z)) (opsS_cons (fun f w_ _ _ _ _ p Z=>L_lss (g_yes rfl (Eq.trans (p 4 21 rfl rfl) (congrArg Value.bool hc56)) rfl) (p 6 23 rfl rfl) rfl (nO rfl rfl Z)) (opsS_cons (fun f w_ _ _ _ _ p Z=>pkT (v:=Bo ((!x29) || (decide (x_8.coef < 1)))) (p 4 21 rfl rfl) hc56 rfl (or_f hc56 (p 7 24 rfl rfl)) (nO rfl rfl Z)) (opsS_cons (fun f w_ _ _ _ _ p Z=>mF (p 8 25 rfl rfl) rfl (nO rfl rfl Z)) (oP (fun _ _ p=>gN (p 9 26 rfl rfl) hc194 rfl) (fun _=>rfl) (oP (fun _ _ p=>gN (p 9 26 rfl rfl) hc194 rfl) (fun _=>rfl) (oP (fun _ _ p=>gN (p 9 26 rfl rfl) hc194 rfl) (fun _=>rfl) (opsS_cons (fun f w_ _ _ _ _ p Z=>pkT (v:=Bo (((!x29) || (decide (x_8.coef < 1))) || (decide (x_8.coef > 1000)))) (p 9 26 rfl rfl) hc194 rfl (or_t hc194) (nO rfl rfl Z)) (opsS_cons (fun f w_ _ _ _ _ p Z=>mF (p 13 30 rfl rfl) rfl (nO rfl rfl Z)) (oP (fun _ _ p=>gN (p 14 31 rfl rfl) hc195 rfl) (fun _=>rfl) (oP (fun _ _ p=>gN (p 14 31 rfl rfl) hc195 rfl) (fun _=>rfl) (oP (fun _ _ p=>gN (p 14 31 rfl rfl) hc195 rfl) (fun _=>rfl) (oP (fun _ _ p=>g_undef rfl (p 17 34 rfl rfl) rfl) (fun _=>rfl) (oP (fun _ _ p=>g_undef rfl (p 17 34 rfl rfl) rfl) (fun _=>rfl) (oP (fun _ _ p=>g_undef rfl (p 17 34 rfl rfl) rfl) (fun _=>rfl) (oP (fun _ _ p=>g_undef rfl (p 17 34 rfl rfl) rfl) (fun _=>rfl) (oP (fun _ _ p=>g_undef rfl (p 17 34 rfl rfl) rfl) (fun _=>rfl) (oP (fun _ _ p=>g_undef rfl (p 17 34 rfl rfl) rfl) (fun _=>rfl) (oP (fun _ _ p=>g_undef rfl (p 17 34 rfl rfl) rfl) (fun _=>rfl) (oP (fun _ _ p=>g_undef rfl (p 17 34 rfl rfl) rfl) (fun _=>rfl) (oP (fun _ _ p=>g_undef rfl (p 17 34 rfl rfl) rfl) (fun _=>rfl) (oP (fun _ _ p=>g_undef rfl (p 17 34 rfl rfl) rfl) (fun _=>rfl) (opsS_nil)))))))))))))))))))))))))
 refine ps (g_undef rfl (hT52 17 34 rfl rfl) rfl) (ps (g_undef rfl (hT52 17 34 rfl rfl) rfl) (ps (g_no rfl (Eq.trans (hT52 14 31 rfl rfl) (congrArg Value.bool hc195)) rfl rfl) (L_pick (v:=Bo b51) rfl (Eq.trans (hT52 14 31 rfl rfl) (congrArg Value.bool hc195)) (congrArg Value.bool (so hb51)) (nn ?_))))
 have Z:=Z.get 1 rfl
 exact rj hR55 ⟨H52,hE52,((hS52 1 rfl).trans sf1),((hS52 3 rfl).trans sf3),rfl,(Star.keepN 1 Z)⟩
 rw [ite_f hc195] at hb51
 obtain ⟨b50,hb50,hb51⟩:=bind_some hb51
 rcases Bool.eq_false_or_eq_true (decide ((i_5 : Int) > 0)) with hc208 | hc208
 rw [ite_t hc208] at hb50
 obtain ⟨x31,hx31,hb50⟩:=bind_some hb50
 obtain ⟨x41,hx41,hb50⟩:=bind_some hb50
 obtain ⟨x48,hx48,hb50⟩:=bind_some hb50
 refine W_drawS 28 [isV (Pq g21 1),isV (I x_8.lit),isV (Bo x29),isV (Bo (!x29)),isV (Bo (!x29)),isV (Pt g21),isV (I x_8.coef),isV (Bo (decide (x_8.coef < 1))),isV (Bo ((!x29) || (decide (x_8.coef < 1)))),isV (Bo ((!x29) || (decide (x_8.coef < 1)))),isV (undef),isV (undef),isV (undef),isV (Bo (((!x29) || (decide (x_8.coef < 1))) || (decide (x_8.coef > 1000)))),isV (Bo (((!x29) || (decide (x_8.coef < 1))) || (decide (x_8.coef > 1000)))),isV (I i_5),isV (Bo (decide ((i_5 : Int) > 0))),isV (Bo (decide ((i_5 : Int) > 0))),isV (Pt g3),isV (v0_0),isV (I i_5),isV (I (i64 ((i_5 : Int) - 1))),isEl rTerm x31 0,isEl rTerm x31 1,isV (I x31.lit),isV (I x41),isV (Pq g21 1),isV (I x_8.lit)] [box g21 126 #[I x_8.coef,I x_8.lit],box g3 73 #[v0_0,I c.bound]] [] ([]) [([],[]),([],[]),([],[]),([],[]),([],[]),([],[]),([],[]),([],[]),([],[]),([],[]),([],[]),([],[]),([],[]),([],[]),([],[]),([],[]),([],[]),([],[]),([],[]),([],[]),([],[]),([],[]),([],[]),([],[]),([],[]),([],[]),([],[]),([],[])] (S:=[]) Tryd_mix (by kernel_rfl) rfl (by kernel_rfl) (amF_cons (mono_V _) (amF_cons (mono_V _) (amF_cons (mono_V _) (amF_cons (mono_V _) (amF_cons (mono_V _) (amF_cons (mono_V _) (amF_cons (mono_V _) (amF_cons (mono_V _) (amF_cons (mono_V _) (amF_cons (mono_V _) (amF_cons (mono_V _) (amF_cons (mono_V _) (amF_cons (mono_V _) (amF_cons (mono_V _) (amF_cons (mono_V _) (amF_cons (mono_V _) (amF_cons (mono_V _) (amF_cons (mono_V _) (amF_cons (mono_V _) (amF_cons (mono_V _) (amF_cons (mono_V _) (amF_cons (mono_V _) (amF_cons (mono_el _ _ _) (amF_cons (mono_el _ _ _) (amF_cons (mono_V _) (amF_cons (mono_V _) (amF_cons (mono_V _) (amF_cons (mono_V _) amF_nil)))))))))))))))))))))))))))) Z ?_ (fun f w_ H52 hS52 hE52 hT52 Z=>?_)
 refine opsS_cons (fun f w_ _ _ s _ _ Z=>fA 1 fa_126_1 ((s 4 rfl).trans rfl) rfl (nO rfl rfl Z)) (opsS_cons (fun f w_ _ _ _ _ p Z=>ldB 0 Z Tryd.isAgg3 (p 0 17 rfl rfl) rfl rfl (nO rfl rfl Z)) (opsS_cons ?_ ?_))
 intro f w_ H52 X52 hS52 hE52 hP52 Z
 obtain ⟨H225b,l226,s227,z228,k229⟩:=Z.borrow
 refine L_call rfl Tryd.call68 (ops1 (hP52 1 18 rfl rfl)) (s_l1Lit_c (n_:=x_8.lit) s227 hx29) ?_
 rintro _ w230 ⟨rfl,Z⟩
 have Z:=k229 Z c0
 exact L_nil ⟨rfl,_,_,rfl,Le.refl _,fun _ _=>rfl,Z⟩
 refine opsS_cons (fun f w_ _ _ _ _ p Z=>L_not_ rfl (p 2 19 rfl rfl) (nO rfl rfl Z)) (opsS_cons (fun f w_ _ _ _ _ p Z=>mF (p 3 20 rfl rfl) rfl (nO rfl rfl Z)) (opsS_cons (fun f w_ _ _ s _ p Z=>L_fa (o':=0) (g_yes rfl (Eq.trans (p 4 21 rfl rfl) (congrArg Value.bool hc56)) rfl) fa_126_0 ((s 4 rfl).trans rfl) rfl (nO rfl rfl Z)) (opsS_cons (fun f w_ _ _ _ _ p Z=>L_ld (v:=I x_8.coef) (g_yes rfl (Eq.trans (p 4 21 rfl rfl) (congrArg Value.bool hc56)) rfl) Tryd.isAgg3 (p 5 22 rfl rfl) (At.cell0 (Blk.at (Star.blkAt 0 Z rfl)) (j:=0) rfl) (nO rfl rfl Z)) (opsS_cons (fun f w_ _ _ _ _ p Z=>L_lss (g_yes rfl (Eq.trans (p 4 21 rfl rfl) (congrArg Value.bool hc56)) rfl) (p 6 23 rfl rfl) rfl (nO rfl rfl Z)) (opsS_cons (fun f w_ _ _ _ _ p Z=>pkT (v:=Bo ((!x29) || (decide (x_8.coef < 1)))) (p 4 21 rfl rfl) hc56 rfl (or_f hc56 (p 7 24 rfl rfl)) (nO rfl rfl Z)) (opsS_cons (fun f w_ _ _ _ _ p Z=>mF (p 8 25 rfl rfl) rfl (nO rfl rfl Z)) (oP (fun _ _ p=>gN (p 9 26 rfl rfl) hc194 rfl) (fun _=>rfl) (oP (fun _ _ p=>gN (p 9 26 rfl rfl) hc194 rfl) (fun _=>rfl) (oP (fun _ _ p=>gN (p 9 26 rfl rfl) hc194 rfl) (fun _=>rfl) (opsS_cons (fun f w_ _ _ _ _ p Z=>pkT (v:=Bo (((!x29) || (decide (x_8.coef < 1))) || (decide (x_8.coef > 1000)))) (p 9 26 rfl rfl) hc194 rfl (or_t hc194) (nO rfl rfl Z)) (opsS_cons (fun f w_ _ _ _ _ p Z=>mF (p 13 30 rfl rfl) rfl (nO rfl rfl Z)) (opsS_cons (fun f w_ _ _ s _ p Z=>L_mv (v:=I i_5) (g_yes rfl (Eq.trans (p 14 31 rfl rfl) (congrArg Value.bool hc195)) rfl) ((s 3 rfl).trans sf3) (nO rfl rfl Z)) (opsS_cons (fun f w_ _ _ _ _ p Z=>L_gtr (g_yes rfl (Eq.trans (p 14 31 rfl rfl) (congrArg Value.bool hc195)) rfl) (p 15 32 rfl rfl) rfl (nO rfl rfl Z)) (opsS_cons (fun f w_ _ _ _ _ p Z=>L_mv (v:=Bo (decide ((i_5 : Int) > 0))) (g_yes rfl (Eq.trans (p 14 31 rfl rfl) (congrArg Value.bool hc195)) rfl) (p 16 33 rfl rfl) (nO rfl rfl Z)) (opsS_cons (fun f w_ _ _ s _ p Z=>L_fa (o':=0) (g_yes rfl (Eq.trans (p 17 34 rfl rfl) (congrArg Value.bool hc208)) rfl) fa_73_0 ((s 1 rfl).trans sf1) rfl (nO rfl rfl Z)) (opsS_cons (fun f w_ _ _ _ _ p Z=>L_ld (v:=v0_0) (g_yes rfl (Eq.trans (p 17 34 rfl rfl) (congrArg Value.bool hc208)) rfl) Tryd.isAgg71 (p 18 35 rfl rfl) (At.cell0 (Blk.at (Star.blkAt 1 Z rfl)) (j:=0) rfl) (nO rfl rfl Z)) (opsS_cons (fun f w_ _ _ s _ p Z=>L_mv (v:=I i_5) (g_yes rfl (Eq.trans (p 17 34 rfl rfl) (congrArg Value.bool hc208)) rfl) ((s 3 rfl).trans sf3) (nO rfl rfl Z)) (opsS_cons (fun f w_ _ _ _ _ p Z=>L_sub (g_yes rfl (Eq.trans (p 17 34 rfl rfl) (congrArg Value.bool hc208)) rfl) (p 20 37 rfl rfl) rfl (nO rfl rfl Z)) (opsS_cons ?_ ?_)))))))))))))))))))
 intro f w_ H52 X52 hS52 hE52 hP52 Z
 refine L_ix (r:=rTerm) (g_yes rfl (Eq.trans (hP52 17 34 rfl rfl) (congrArg Value.bool hc208)) rfl) Tryd.underlying71 Tryd.sizeOf126 (hP52 19 36 rfl rfl) (RP.mono _ h0_0 (Le.trans l7 hE52)) (hP52 21 38 rfl rfl) hx31 (fun g231 o232 cs_g231 hrk_hat233 hat233=>?_)
 obtain rfl:=rTerm_iff.1 hrk_hat233
 exact L_nil ⟨rfl,_,_,rfl,Le.refl _,fun _ _=>⟨_,_,_,rfl,hrk_hat233,hat233⟩,Z⟩
 refine opsS_cons ?_ ?_
 intro f w_ H52 X52 hS52 hE52 hP52 Z
 obtain ⟨g235,o235,cs235,hv235,hrk_hat235,hat235⟩:=(hP52 22 39 rfl rfl)
 obtain rfl:=rTerm_iff.1 hrk_hat235
 refine L_fa (o':=o235 + 1) (g_yes rfl (Eq.trans (hP52 17 34 rfl rfl) (congrArg Value.bool hc208)) rfl) fa_126_1 hv235 rfl (L_nil ⟨rfl,_,_,rfl,Le.refl _,fun _ _=>⟨_,_,_,rfl,hrk_hat235,hat235⟩,Z⟩)
 refine opsS_cons ?_ ?_
 intro f w_ H52 X52 hS52 hE52 hP52 Z
 obtain ⟨g237,o237,cs237,hv237,hrk_hat237,hat237⟩:=(hP52 23 40 rfl rfl)
 obtain rfl:=rTerm_iff.1 hrk_hat237
 refine L_ld (v:=I x31.lit) (g_yes rfl (Eq.trans (hP52 17 34 rfl rfl) (congrArg Value.bool hc208)) rfl) Tryd.isAgg3 hv237 (At.cell (AtH.at hat237 Z.sub) (j:=1) rfl) (L_nil ⟨rfl,_,_,rfl,Le.refl _,fun _ _=>rfl,Z⟩)
 refine opsS_cons ?_ ?_
 intro f w_ H52 X52 hS52 hE52 hP52 Z
 obtain ⟨H239b,l240,s241,z242,k243⟩:=Z.borrow
 refine L_call (g_yes rfl (Eq.trans (hP52 17 34 rfl rfl) (congrArg Value.bool hc208)) rfl) Tryd.call97 (ops1 (hP52 24 41 rfl rfl)) (s_l1Abs_c (n_:=x31.lit) s241 hx41) ?_
 rintro _ w244 ⟨rfl,Z⟩
 have Z:=k243 Z c0
 exact L_nil ⟨rfl,_,_,rfl,Le.refl _,fun _ _=>rfl,Z⟩
 refine opsS_cons (fun f w_ _ _ s _ p Z=>L_fa (o':=1) (g_yes rfl (Eq.trans (p 17 34 rfl rfl) (congrArg Value.bool hc208)) rfl) fa_126_1 ((s 4 rfl).trans rfl) rfl (nO rfl rfl Z)) (opsS_cons (fun f w_ _ _ _ _ p Z=>L_ld (v:=I x_8.lit) (g_yes rfl (Eq.trans (p 17 34 rfl rfl) (congrArg Value.bool hc208)) rfl) Tryd.isAgg3 (p 26 43 rfl rfl) (At.cell0 (Blk.at (Star.blkAt 0 Z rfl)) (j:=1) rfl) (nO rfl rfl Z)) (opsS_nil))
 obtain ⟨H245b,l246,s247,z248,k249⟩:=Z.borrow
 refine L_call (g_yes rfl (Eq.trans (hT52 17 34 rfl rfl) (congrArg Value.bool hc208)) rfl) Tryd.call97 (ops1 (hT52 27 44 rfl rfl)) (s_l1Abs_c (n_:=x_8.lit) s247 hx48) ?_
 rintro _ w250 ⟨rfl,Z⟩
 have Z:=k249 Z c0
 refine L_geq (g_yes rfl (Eq.trans (hT52 17 34 rfl rfl) (congrArg Value.bool hc208)) rfl) (hT52 25 42 rfl rfl) rfl (L_pick (v:=Bo b50) (g_yes rfl (Eq.trans (hT52 14 31 rfl rfl) (congrArg Value.bool hc195)) rfl) (Eq.trans (hT52 17 34 rfl rfl) (congrArg Value.bool hc208)) (congrArg Value.bool (so hb50)) (L_pick (v:=Bo b51) rfl (Eq.trans (hT52 14 31 rfl rfl) (congrArg Value.bool hc195)) (congrArg Value.bool (so hb51)) (nn ?_)))
 have Z:=Z.get 1 rfl
 exact rj hR55 ⟨H52,hE52,((hS52 1 rfl).trans sf1),((hS52 3 rfl).trans sf3),rfl,(Star.keepN 1 Z)⟩
 rw [ite_f hc208] at hb50
 refine W_drawS 28 [isV (Pq g21 1),isV (I x_8.lit),isV (Bo x29),isV (Bo (!x29)),isV (Bo (!x29)),isV (Pt g21),isV (I x_8.coef),isV (Bo (decide (x_8.coef < 1))),isV (Bo ((!x29) || (decide (x_8.coef < 1)))),isV (Bo ((!x29) || (decide (x_8.coef < 1)))),isV (undef),isV (undef),isV (undef),isV (Bo (((!x29) || (decide (x_8.coef < 1))) || (decide (x_8.coef > 1000)))),isV (Bo (((!x29) || (decide (x_8.coef < 1))) || (decide (x_8.coef > 1000)))),isV (I i_5),isV (Bo (decide ((i_5 : Int) > 0))),isV (Bo (decide ((i_5 : Int) > 0))),isV (undef),isV (undef),isV (undef),isV (undef),isV (undef),isV (undef),isV (undef),isV (undef),isV (undef),isV (undef)] [box g21 126 #[I x_8.coef,I x_8.lit],box g3 73 #[v0_0,I c.bound]] [] ([]) [([],[]),([],[]),([],[]),([],[]),([],[]),([],[]),([],[]),([],[]),([],[]),([],[]),([],[]),([],[]),([],[]),([],[]),([],[]),([],[]),([],[]),([],[]),([],[]),([],[]),([],[]),([],[]),([],[]),([],[]),([],[]),([],[]),([],[]),([],[])] (S:=[]) Tryd_mix (by kernel_rfl) rfl (by kernel_rfl) (amF_cons (mono_V _) (amF_cons (mono_V _) (amF_cons (mono_V _) (amF_cons (mono_V _) (amF_cons (mono_V _) (amF_cons (mono_V _) (amF_cons (mono_V _) (amF_cons (mono_V _) (amF_cons (mono_V _) (amF_cons (mono_V _) (amF_cons (mono_V _) (amF_cons (mono_V _) (amF_cons (mono_V _) (amF_cons (mono_V _) (amF_cons (mono_V _) (amF_cons (mono_V _) (amF_cons (mono_V _) (amF_cons (mono_V _) (amF_cons (mono_V _) (amF_cons (mono_V _) (amF_cons (mono_V _) (amF_cons (mono_V _) (amF_cons (mono_V _) (amF_cons (mono_V _) (amF_cons (mono_V _) (amF_cons (mono_V _) (amF_cons (mono_V _) (amF_cons (mono_V _) amF_nil)))))))))))))))))))))))))))) Z ?_ (fun f w_ H52 hS52 hE52 hT52 Z=>?_)
 refine opsS_cons (fun f w_ _ _ s _ _ Z=>fA 1 fa_126_1 ((s 4 rfl).trans rfl) rfl (nO rfl rfl Z)) (opsS_cons (fun f w_ _ _ _ _ p Z=>ldB 0 Z Tryd.isAgg3 (p 0 17 rfl rfl) rfl rfl (nO rfl rfl Z)) (opsS_cons ?_ ?_))
 intro f w_ H52 X52 hS52 hE52 hP52 Z
 obtain ⟨H257b,l258,s259,z260,k261⟩:=Z.borrow
 refine L_call rfl Tryd.call68 (ops1 (hP52 1 18 rfl rfl)) (s_l1Lit_c (n_:=x_8.lit) s259 hx29) ?_
 rintro _ w262 ⟨rfl,Z⟩
 have Z:=k261 Z c0
 exact L_nil ⟨rfl,_,_,rfl,Le.refl _,fun _ _=>rfl,Z⟩
 refine opsS_cons (fun f w_ _ _ _ _ p Z=>L_not_ rfl (p 2 19 rfl rfl) (nO rfl rfl Z)) (opsS_cons (fun f w_ _ _ _ _ p Z=>mF (p 3 20 rfl rfl) rfl (nO rfl rfl Z)) (opsS_cons (fun f w_ _ _ s _ p Z=>L_fa (o':=0) (g_yes rfl (Eq.trans (p 4 21 rfl rfl) (congrArg Value.bool hc56)) rfl) fa_126_0 ((s 4 rfl).trans rfl) rfl (nO rfl rfl Z)) (opsS_cons (fun f w_ _ _ _ _ p Z=>L_ld (v:=I x_8.coef) (g_yes rfl (Eq.trans (p 4 21 rfl rfl) (congrArg Value.bool hc56)) rfl) Tryd.isAgg3 (p 5 22 rfl rfl) (At.cell0 (Blk.at (Star.blkAt 0 Z rfl)) (j:=0) rfl) (nO rfl rfl Z)) (opsS_cons (fun f w_ _ _ _ _ p Z=>L_lss (g_yes rfl (Eq.trans (p 4 21 rfl rfl) (congrArg Value.bool hc56)) rfl) (p 6 23 rfl rfl) rfl (nO rfl rfl Z)) (opsS_cons (fun f w_ _ _ _ _ p Z=>pkT (v:=Bo ((!x29) || (decide (x_8.coef < 1)))) (p 4 21 rfl rfl) hc56 rfl (or_f hc56 (p 7 24 rfl rfl)) (nO rfl rfl Z)) (opsS_cons (fun f w_ _ _ _ _ p Z=>mF (p 8 25 rfl rfl) rfl (nO rfl rfl Z)) (oP (fun _ _ p=>gN (p 9 26 rfl rfl) hc194 rfl) (fun _=>rfl) (oP (fun _ _ p=>gN (p 9 26 rfl rfl) hc194 rfl) (fun _=>rfl) (oP (fun _ _ p=>gN (p 9 26 rfl rfl) hc194 rfl) (fun _=>rfl) (opsS_cons (fun f w_ _ _ _ _ p Z=>pkT (v:=Bo (((!x29) || (decide (x_8.coef < 1))) || (decide (x_8.coef > 1000)))) (p 9 26 rfl rfl) hc194 rfl (or_t hc194) (nO rfl rfl Z)) (opsS_cons (fun f w_ _ _ _ _ p Z=>mF (p 13 30 rfl rfl) rfl (nO rfl rfl Z)) (opsS_cons (fun f w_ _ _ s _ p Z=>L_mv (v:=I i_5) (g_yes rfl (Eq.trans (p 14 31 rfl rfl) (congrArg Value.bool hc195)) rfl) ((s 3 rfl).trans sf3) (nO rfl rfl Z)) (opsS_cons (fun f w_ _ _ _ _ p Z=>L_gtr (g_yes rfl (Eq.trans (p 14 31 rfl rfl) (congrArg Value.bool hc195)) rfl) (p 15 32 rfl rfl) rfl (nO rfl rfl Z)) (opsS_cons (fun f w_ _ _ _ _ p Z=>L_mv (v:=Bo (decide ((i_5 : Int) > 0))) (g_yes rfl (Eq.trans (p 14 31 rfl rfl) (congrArg Value.bool hc195)) rfl) (p 16 33 rfl rfl) (nO rfl rfl Z)) (oP (fun _ _ p=>gN (p 17 34 rfl rfl) hc208 rfl) (fun _=>rfl) (oP (fun _ _ p=>gN (p 17 34 rfl rfl) hc208 rfl) (fun _=>rfl) (oP (fun _ _ p=>gN (p 17 34 rfl rfl) hc208 rfl) (fun _=>rfl) (oP (fun _ _ p=>gN (p 17 34 rfl rfl) hc208 rfl) (fun _=>rfl) (oP (fun _ _ p=>gN (p 17 34 rfl rfl) hc208 rfl) (fun _=>rfl) (oP (fun _ _ p=>gN (p 17 34 rfl rfl) hc208 rfl) (fun _=>rfl) (oP (fun _ _ p=>gN (p 17 34 rfl rfl) hc208 rfl) (fun _=>rfl) (oP (fun _ _ p=>gN (p 17 34 rfl rfl) hc208 rfl) (fun _=>rfl) (oP (fun _ _ p=>gN (p 17 34 rfl rfl) hc208 rfl) (fun _=>rfl) (oP (fun _ _ p=>gN (p 17 34 rfl rfl) hc208 rfl) (fun _=>rfl) (opsS_nil)))))))))))))))))))))))))
 refine ps (g_no rfl (Eq.trans (hT52 17 34 rfl rfl) (congrArg Value.bool hc208)) rfl rfl) (ps (g_no rfl (Eq.trans (hT52 17 34 rfl rfl) (congrArg Value.bool hc208)) rfl rfl) (L_pick (v:=Bo b50) (g_yes rfl (Eq.trans (hT52 14 31 rfl rfl) (congrArg Value.bool hc195)) rfl) (Eq.trans (hT52 17 34 rfl rfl) (congrArg Value.bool hc208)) (congrArg Value.bool (so hb50)) (L_pick (v:=Bo b51) rfl (Eq.trans (hT52 14 31 rfl rfl) (congrArg Value.bool hc195)) (congrArg Value.bool (so hb51)) (nn ?_))))
 have Z:=Z.get 1 rfl
 exact rj hR55 ⟨H52,hE52,((hS52 1 rfl).trans sf1),((hS52 3 rfl).trans sf3),rfl,(Star.keepN 1 Z)⟩
 rcases Bool.eq_false_or_eq_true (((!x29) || (decide (x_8.coef < 1))) || (decide (x_8.coef > 1000))) with hc263 | hc263
 rw [ite_t hc263] at hb51
 refine W_drawS 28 [isV (Pq g21 1),isV (I x_8.lit),isV (Bo x29),isV (Bo (!x29)),isV (Bo (!x29)),isV (Pt g21),isV (I x_8.coef),isV (Bo (decide (x_8.coef < 1))),isV (Bo ((!x29) || (decide (x_8.coef < 1)))),isV (Bo ((!x29) || (decide (x_8.coef < 1)))),isV (Pt g21),isV (I x_8.coef),isV (Bo (decide (x_8.coef > 1000))),isV (Bo (((!x29) || (decide (x_8.coef < 1))) || (decide (x_8.coef > 1000)))),isV (Bo (((!x29) || (decide (x_8.coef < 1))) || (decide (x_8.coef > 1000)))),isV (undef),isV (undef),isV (undef),isV (undef),isV (undef),isV (undef),isV (undef),isV (undef),isV (undef),isV (undef),isV (undef),isV (undef),isV (undef)] [box g21 126 #[I x_8.coef,I x_8.lit],box g3 73 #[v0_0,I c.bound]] [] ([]) [([],[]),([],[]),([],[]),([],[]),([],[]),([],[]),([],[]),([],[]),([],[]),([],[]),([],[]),([],[]),([],[]),([],[]),([],[]),([],[]),([],[]),([],[]),([],[]),([],[]),([],[]),([],[]),([],[]),([],[]),([],[]),([],[]),([],[]),([],[])] (S:=[]) Tryd_mix (by kernel_rfl) rfl (by kernel_rfl) (amF_cons (mono_V _) (amF_cons (mono_V _) (amF_cons (mono_V _) (amF_cons (mono_V _) (amF_cons (mono_V _) (amF_cons (mono_V _) (amF_cons (mono_V _) (amF_cons (mono_V _) (amF_cons (mono_V _) (amF_cons (mono_V _) (amF_cons (mono_V _) (amF_cons (mono_V _) (amF_cons (mono_V _) (amF_cons (mono_V _) (amF_cons (mono_V _) (amF_cons (mono_V _) (amF_cons (mono_V _) (amF_cons (mono_V _) (amF_cons (mono_V _) (amF_cons (mono_V _) (amF_cons (mono_V _) (amF_cons (mono_V _) (amF_cons (mono_V _) (amF_cons (mono_V _) (amF_cons (mono_V _) (amF_cons (mono_V _) (amF_cons (mono_V _) (amF_cons (mono_V _) amF_nil)))))))))))))))))))))))))))) Z ?_ (fun f w_ H52 hS52 hE52 hT52 Z=>?_)
 refine opsS_cons (fun f w_ _ _ s _ _ Z=>fA 1 fa_126_1 ((s 4 rfl).trans rfl) rfl (nO rfl rfl Z)) (opsS_cons (fun f w_ _ _ _ _ p Z=>ldB 0 Z Tryd.isAgg3 (p 0 17 rfl rfl) rfl rfl (nO rfl rfl Z)) (opsS_cons ?_ ?_))
 intro f w_ H52 X52 hS52 hE52 hP52 Z
 obtain ⟨H270b,l271,s272,z273,k274⟩:=Z.borrow
 refine L_call rfl Tryd.call68 (ops1 (hP52 1 18 rfl rfl)) (s_l1Lit_c (n_:=x_8.lit) s272 hx29) ?_
 rintro _ w275 ⟨rfl,Z⟩
 have Z:=k274 Z c0
 exact L_nil ⟨rfl,_,_,rfl,Le.refl _,fun _ _=>rfl,Z⟩
 refine opsS_cons (fun f w_ _ _ _ _ p Z=>L_not_ rfl (p 2 19 rfl rfl) (nO rfl rfl Z)) (opsS_cons (fun f w_ _ _ _ _ p Z=>mF (p 3 20 rfl rfl) rfl (nO rfl rfl Z)) (opsS_cons (fun f w_ _ _ s _ p Z=>L_fa (o':=0) (g_yes rfl (Eq.trans (p 4 21 rfl rfl) (congrArg Value.bool hc56)) rfl) fa_126_0 ((s 4 rfl).trans rfl) rfl (nO rfl rfl Z)) (opsS_cons (fun f w_ _ _ _ _ p Z=>L_ld (v:=I x_8.coef) (g_yes rfl (Eq.trans (p 4 21 rfl rfl) (congrArg Value.bool hc56)) rfl) Tryd.isAgg3 (p 5 22 rfl rfl) (At.cell0 (Blk.at (Star.blkAt 0 Z rfl)) (j:=0) rfl) (nO rfl rfl Z)) (opsS_cons (fun f w_ _ _ _ _ p Z=>L_lss (g_yes rfl (Eq.trans (p 4 21 rfl rfl) (congrArg Value.bool hc56)) rfl) (p 6 23 rfl rfl) rfl (nO rfl rfl Z)) (opsS_cons (fun f w_ _ _ _ _ p Z=>pkT (v:=Bo ((!x29) || (decide (x_8.coef < 1)))) (p 4 21 rfl rfl) hc56 rfl (or_f hc56 (p 7 24 rfl rfl)) (nO rfl rfl Z)) (opsS_cons (fun f w_ _ _ _ _ p Z=>mF (p 8 25 rfl rfl) rfl (nO rfl rfl Z)) (opsS_cons (fun f w_ _ _ s _ p Z=>L_fa (o':=0) (g_yes rfl (Eq.trans (p 9 26 rfl rfl) (congrArg Value.bool hc194)) rfl) fa_126_0 ((s 4 rfl).trans rfl) rfl (nO rfl rfl Z)) (opsS_cons (fun f w_ _ _ _ _ p Z=>L_ld (v:=I x_8.coef) (g_yes rfl (Eq.trans (p 9 26 rfl rfl) (congrArg Value.bool hc194)) rfl) Tryd.isAgg3 (p 10 27 rfl rfl) (At.cell0 (Blk.at (Star.blkAt 0 Z rfl)) (j:=0) rfl) (nO rfl rfl Z)) (opsS_cons (fun f w_ _ _ _ _ p Z=>L_gtr (g_yes rfl (Eq.trans (p 9 26 rfl rfl) (congrArg Value.bool hc194)) rfl) (p 11 28 rfl rfl) rfl (nO rfl rfl Z)) (opsS_cons (fun f w_ _ _ _ _ p Z=>pkT (v:=Bo (((!x29) || (decide (x_8.coef < 1))) || (decide (x_8.coef > 1000)))) (p 9 26 rfl rfl) hc194 rfl (or_f hc194 (p 12 29 rfl rfl)) (nO rfl rfl Z)) (opsS_cons (fun f w_ _ _ _ _ p Z=>mF (p 13 30 rfl rfl) rfl (nO rfl rfl Z)) (oP (fun _ _ p=>gN (p 14 31 rfl rfl) hc263 rfl) (fun _=>rfl) (oP (fun _ _ p=>gN (p 14 31 rfl rfl) hc263 rfl) (fun _=>rfl) (oP (fun _ _ p=>gN (p 14 31 rfl rfl) hc263 rfl) (fun _=>rfl) (oP (fun _ _ p=>g_undef rfl (p 17 34 rfl rfl) rfl) (fun _=>rfl) (oP (fun _ _ p=>g_undef rfl (p 17 34 rfl rfl) rfl) (fun _=>rfl) (oP (fun _ _ p=>g_undef rfl (p 17 34 rfl rfl) rfl) (fun _=>rfl) (oP (fun _ _ p=>g_undef rfl (p 17 34 rfl rfl) rfl) (fun _=>rfl) (oP (fun _ _ p=>g_undef rfl (p 17 34 rfl rfl) rfl) (fun _=>rfl) (oP (fun _ _ p=>g_undef rfl (p 17 34 rfl rfl) rfl) (fun _=>rfl) (oP (fun _ _ p=>g_undef rfl (p 17 34 rfl rfl) rfl) (fun _=>rfl) (oP (fun _ _ p=>g_undef rfl (p 17 34 rfl rfl) rfl) (fun _=>rfl) (oP (fun _ _ p=>g_undef rfl (p 17 34 rfl rfl) rfl) (fun _=>rfl) (oP (fun _ _ p=>g_undef rfl (p 17 34 rfl rfl) rfl) (fun _=>rfl) (opsS_nil)))))))))))))))))))))))))
 refine ps (g_undef rfl (hT52 17 34 rfl rfl) rfl) (ps (g_undef rfl (hT52 17 34 rfl rfl) rfl) (ps (g_no rfl (Eq.trans (hT52 14 31 rfl rfl) (congrArg Value.bool hc263)) rfl rfl) (L_pick (v:=Bo b51) rfl (Eq.trans (hT52 14 31 rfl rfl) (congrArg Value.bool hc263)) (congrArg Value.bool (so hb51)) (nn ?_))))
 have Z:=Z.get 1 rfl
 exact rj hR55 ⟨H52,hE52,((hS52 1 rfl).trans sf1),((hS52 3 rfl).trans sf3),rfl,(Star.keepN 1 Z)⟩
 rw [ite_f hc263] at hb51
 obtain ⟨b50,hb50,hb51⟩:=bind_some hb51
 rcases Bool.eq_false_or_eq_true (decide ((i_5 : Int) > 0)) with hc276 | hc276
 rw [ite_t hc276] at hb50
 obtain ⟨x31,hx31,hb50⟩:=bind_some hb50
 obtain ⟨x41,hx41,hb50⟩:=bind_some hb50
 obtain ⟨x48,hx48,hb50⟩:=bind_some hb50
 refine W_drawS 28 [isV (Pq g21 1),isV (I x_8.lit),isV (Bo x29),isV (Bo (!x29)),isV (Bo (!x29)),isV (Pt g21),isV (I x_8.coef),isV (Bo (decide (x_8.coef < 1))),isV (Bo ((!x29) || (decide (x_8.coef < 1)))),isV (Bo ((!x29) || (decide (x_8.coef < 1)))),isV (Pt g21),isV (I x_8.coef),isV (Bo (decide (x_8.coef > 1000))),isV (Bo (((!x29) || (decide (x_8.coef < 1))) || (decide (x_8.coef > 1000)))),isV (Bo (((!x29) || (decide (x_8.coef < 1))) || (decide (x_8.coef > 1000)))),isV (I i_5),isV (Bo (decide ((i_5 : Int) > 0))),isV (Bo (decide ((i_5 : Int) > 0))),isV (Pt g3),isV (v0_0),isV (I i_5),isV (I (i64 ((i_5 : Int) - 1))),isEl rTerm x31 0,isEl rTerm x31 1,isV (I x31.lit),isV (I x41),isV (Pq g21 1),isV (I x_8.lit)] [box g21 126 #[I x_8.coef,I x_8.lit],box g3 73 #[v0_0,I c.bound]] [] ([]) [([],[]),([],[]),([],[]),([],[]),([],[]),([],[]),([],[]),([],[]),([],[]),([],[]),([],[]),([],[]),([],[]),([],[]),([],[]),([],[]),([],[]),([],[]),([],[]),([],[]),([],[]),([],[]),([],[]),([],[]),([],[]),([],[]),([],[]),([],[])] (S:=[]) Tryd_mix (by kernel_rfl) rfl (by kernel_rfl) (amF_cons (mono_V _) (amF_cons (mono_V _) (amF_cons (mono_V _) (amF_cons (mono_V _) (amF_cons (mono_V _) (amF_cons (mono_V _) (amF_cons (mono_V _) (amF_cons (mono_V _) (amF_cons (mono_V _) (amF_cons (mono_V _) (amF_cons (mono_V _) (amF_cons (mono_V _) (amF_cons (mono_V _) (amF_cons (mono_V _) (amF_cons (mono_V _) (amF_cons (mono_V _) (amF_cons (mono_V _) (amF_cons (mono_V _) (amF_cons (mono_V _) (amF_cons (mono_V _) (amF_cons (mono_V _) (amF_cons (mono_V _) (amF_cons (mono_el _ _ _) (amF_cons (mono_el _ _ _) (amF_cons (mono_V _) (amF_cons (mono_V _) (amF_cons (mono_V _) (amF_cons (mono_V _) amF_nil)))))))))))))))))))))))))))) Z ?_ (fun f w_ H52 hS52 hE52 hT52 Z=>?_)
 refine opsS_cons (fun f w_ _ _ s _ _ Z=>fA 1 fa_126_1 ((s 4 rfl).trans rfl) rfl (nO rfl rfl Z)) (opsS_cons (fun f w_ _ _ _ _ p Z=>ldB 0 Z Tryd.isAgg3 (p 0 17 rfl rfl) rfl rfl (nO rfl rfl Z)) (opsS_cons ?_ ?_))
 intro f w_ H52 X52 hS52 hE52 hP52 Z
 obtain ⟨H293b,l294,s295,z296,k297⟩:=Z.borrow
 refine L_call rfl Tryd.call68 (ops1 (hP52 1 18 rfl rfl)) (s_l1Lit_c (n_:=x_8.lit) s295 hx29) ?_
 rintro _ w298 ⟨rfl,Z⟩
 have Z:=k297 Z c0
 exact L_nil ⟨rfl,_,_,rfl,Le.refl _,fun _ _=>rfl,Z⟩
 refine opsS_cons (fun f w_ _ _ _ _ p Z=>L_not_ rfl (p 2 19 rfl rfl) (nO rfl rfl Z)) (opsS_cons (fun f w_ _ _ _ _ p Z=>mF (p 3 20 rfl rfl) rfl (nO rfl rfl Z)) (opsS_cons (fun f w_ _ _ s _ p Z=>L_fa (o':=0) (g_yes rfl (Eq.trans (p 4 21 rfl rfl) (congrArg Value.bool hc56)) rfl) fa_126_0 ((s 4 rfl).trans rfl) rfl (nO rfl rfl Z)) (opsS_cons (fun f w_ _ _ _ _ p Z=>L_ld (v:=I x_8.coef) (g_yes rfl (Eq.trans (p 4 21 rfl rfl) (congrArg Value.bool hc56)) rfl) Tryd.isAgg3 (p 5 22 rfl rfl) (At.cell0 (Blk.at (Star.blkAt 0 Z rfl)) (j:=0) rfl) (nO rfl rfl Z)) (opsS_cons (fun f w_ _ _ _ _ p Z=>L_lss (g_yes rfl (Eq.trans (p 4 21 rfl rfl) (congrArg Value.bool hc56)) rfl) (p 6 23 rfl rfl) rfl (nO rfl rfl Z)) (opsS_cons (fun f w_ _ _ _ _ p Z=>pkT (v:=Bo ((!x29) || (decide (x_8.coef < 1)))) (p 4 21 rfl rfl) hc56 rfl (or_f hc56 (p 7 24 rfl rfl)) (nO rfl rfl Z)) (opsS_cons (fun f w_ _ _ _ _ p Z=>mF (p 8 25 rfl rfl) rfl (nO rfl rfl Z)) (opsS_cons (fun f w_ _ _ s _ p Z=>L_fa (o':=0) (g_yes rfl (Eq.trans (p 9 26 rfl rfl) (congrArg Value.bool hc194)) rfl) fa_126_0 ((s 4 rfl).trans rfl) rfl (nO rfl rfl Z)) (opsS_cons (fun f w_ _ _ _ _ p Z=>L_ld (v:=I x_8.coef) (g_yes rfl (Eq.trans (p 9 26 rfl rfl) (congrArg Value.bool hc194)) rfl) Tryd.isAgg3 (p 10 27 rfl rfl) (At.cell0 (Blk.at (Star.blkAt 0 Z rfl)) (j:=0) rfl) (nO rfl rfl Z)) (opsS_cons (fun f w_ _ _ _ _ p Z=>L_gtr (g_yes rfl (Eq.trans (p 9 26 rfl rfl) (congrArg Value.bool hc194)) rfl) (p 11 28 rfl rfl) rfl (nO rfl rfl Z)) (opsS_cons (fun f w_ _ _ _ _ p Z=>pkT (v:=Bo (((!x29) || (decide (x_8.coef < 1))) || (decide (x_8.coef > 1000)))) (p 9 26 rfl rfl) hc194 rfl (or_f hc194 (p 12 29 rfl rfl)) (nO rfl rfl Z)) (opsS_cons (fun f w_ _ _ _ _ p Z=>mF (p 13 30 rfl rfl) rfl (nO rfl rfl Z)) (opsS_cons (fun f w_ _ _ s _ p Z=>L_mv (v:=I i_5) (g_yes rfl (Eq.trans (p 14 31 rfl rfl) (congrArg Value.bool hc263)) rfl) ((s 3 rfl).trans sf3) (nO rfl rfl Z)) (opsS_cons (fun f w_ _ _ _ _ p Z=>L_gtr (g_yes rfl (Eq.trans (p 14 31 rfl rfl) (congrArg Value.bool hc263)) rfl) (p 15 32 rfl rfl) rfl (nO rfl rfl Z)) (opsS_cons (fun f w_ _ _ _ _ p Z=>L_mv (v:=Bo (decide ((i_5 : Int) > 0))) (g_yes rfl (Eq.trans (p 14 31 rfl rfl) (congrArg Value.bool hc263)) rfl) (p 16 33 rfl rfl) (nO rfl rfl Z)) (opsS_cons (fun f w_ _ _ s _ p Z=>L_fa (o':=0) (g_yes rfl (Eq.trans (p 17 34 rfl rfl) (congrArg Value.bool hc276)) rfl) fa_73_0 ((s 1 rfl).trans sf1) rfl (nO rfl rfl Z)) (opsS_cons (fun f w_ _ _ _ _ p Z=>L_ld (v:=v0_0) (g_yes rfl (Eq.trans (p 17 34 rfl rfl) (congrArg Value.bool hc276)) rfl) Tryd.isAgg71 (p 18 35 rfl rfl) (At.cell0 (Blk.at (Star.blkAt 1 Z rfl)) (j:=0) rfl) (nO rfl rfl Z)) (opsS_cons (fun f w_ _ _ s _ p Z=>L_mv (v:=I i_5) (g_yes rfl (Eq.trans (p 17 34 rfl rfl) (congrArg Value.bool hc276)) rfl) ((s 3 rfl).trans sf3) (nO rfl rfl Z)) (opsS_cons (fun f w_ _ _ _ _ p Z=>L_sub (g_yes rfl (Eq.trans (p 17 34 rfl rfl) (congrArg Value.bool hc276)) rfl) (p 20 37 rfl rfl) rfl (nO rfl rfl Z)) (opsS_cons ?_ ?_)))))))))))))))))))
 intro f w_ H52 X52 hS52 hE52 hP52 Z
 refine L_ix (r:=rTerm) (g_yes rfl (Eq.trans (hP52 17 34 rfl rfl) (congrArg Value.bool hc276)) rfl) Tryd.underlying71 Tryd.sizeOf126 (hP52 19 36 rfl rfl) (RP.mono _ h0_0 (Le.trans l7 hE52)) (hP52 21 38 rfl rfl) hx31 (fun g299 o300 cs_g299 hrk_hat301 hat301=>?_)
 obtain rfl:=rTerm_iff.1 hrk_hat301
 exact L_nil ⟨rfl,_,_,rfl,Le.refl _,fun _ _=>⟨_,_,_,rfl,hrk_hat301,hat301⟩,Z⟩
 refine opsS_cons ?_ ?_
 intro f w_ H52 X52 hS52 hE52 hP52 Z
 obtain ⟨g303,o303,cs303,hv303,hrk_hat303,hat303⟩:=(hP52 22 39 rfl rfl)
 obtain rfl:=rTerm_iff.1 hrk_hat303
 refine L_fa (o':=o303 + 1) (g_yes rfl (Eq.trans (hP52 17 34 rfl rfl) (congrArg Value.bool hc276)) rfl) fa_126_1 hv303 rfl (L_nil ⟨rfl,_,_,rfl,Le.refl _,fun _ _=>⟨_,_,_,rfl,hrk_hat303,hat303⟩,Z⟩)
 refine opsS_cons ?_ ?_
 intro f w_ H52 X52 hS52 hE52 hP52 Z
 obtain ⟨g305,o305,cs305,hv305,hrk_hat305,hat305⟩:=(hP52 23 40 rfl rfl)
 obtain rfl:=rTerm_iff.1 hrk_hat305
 refine L_ld (v:=I x31.lit) (g_yes rfl (Eq.trans (hP52 17 34 rfl rfl) (congrArg Value.bool hc276)) rfl) Tryd.isAgg3 hv305 (At.cell (AtH.at hat305 Z.sub) (j:=1) rfl) (L_nil ⟨rfl,_,_,rfl,Le.refl _,fun _ _=>rfl,Z⟩)
 refine opsS_cons ?_ ?_
 intro f w_ H52 X52 hS52 hE52 hP52 Z
 obtain ⟨H307b,l308,s309,z310,k311⟩:=Z.borrow
 refine L_call (g_yes rfl (Eq.trans (hP52 17 34 rfl rfl) (congrArg Value.bool hc276)) rfl) Tryd.call97 (ops1 (hP52 24 41 rfl rfl)) (s_l1Abs_c (n_:=x31.lit) s309 hx41) ?_
 rintro _ w312 ⟨rfl,Z⟩
 have Z:=k311 Z c0
 exact L_nil ⟨rfl,_,_,rfl,Le.refl _,fun _ _=>rfl,Z⟩
 refine opsS_cons (fun f w_ _ _ s _ p Z=>L_fa (o':=1) (g_yes rfl (Eq.trans (p 17 34 rfl rfl) (congrArg Value.bool hc276)) rfl) fa_126_1 ((s 4 rfl).trans rfl) rfl (nO rfl rfl Z)) (opsS_cons (fun f w_ _ _ _ _ p Z=>L_ld (v:=I x_8.lit) (g_yes rfl (Eq.trans (p 17 34 rfl rfl) (congrArg Value.bool hc276)) rfl) Tryd.isAgg3 (p 26 43 rfl rfl) (At.cell0 (Blk.at (Star.blkAt 0 Z rfl)) (j:=1) rfl) (nO rfl rfl Z)) (opsS_nil))
 obtain ⟨H313b,l314,s315,z316,k317⟩:=Z.borrow
 refine L_call (g_yes rfl (Eq.trans (hT52 17 34 rfl rfl) (congrArg Value.bool hc276)) rfl) Tryd.call97 (ops1 (hT52 27 44 rfl rfl)) (s_l1Abs_c (n_:=x_8.lit) s315 hx48) ?_
 rintro _ w318 ⟨rfl,Z⟩
 have Z:=k317 Z c0
 refine L_geq (g_yes rfl (Eq.trans (hT52 17 34 rfl rfl) (congrArg Value.bool hc276)) rfl) (hT52 25 42 rfl rfl) rfl (L_pick (v:=Bo b50) (g_yes rfl (Eq.trans (hT52 14 31 rfl rfl) (congrArg Value.bool hc263)) rfl) (Eq.trans (hT52 17 34 rfl rfl) (congrArg Value.bool hc276)) (congrArg Value.bool (so hb50)) (L_pick (v:=Bo b51) rfl (Eq.trans (hT52 14 31 rfl rfl) (congrArg Value.bool hc263)) (congrArg Value.bool (so hb51)) (nn ?_)))
 have Z:=Z.get 1 rfl
 exact rj hR55 ⟨H52,hE52,((hS52 1 rfl).trans sf1),((hS52 3 rfl).trans sf3),rfl,(Star.keepN 1 Z)⟩
 rw [ite_f hc276] at hb50
 refine W_drawS 28 [isV (Pq g21 1),isV (I x_8.lit),isV (Bo x29),isV (Bo (!x29)),isV (Bo (!x29)),isV (Pt g21),isV (I x_8.coef),isV (Bo (decide (x_8.coef < 1))),isV (Bo ((!x29) || (decide (x_8.coef < 1)))),isV (Bo ((!x29) || (decide (x_8.coef < 1)))),isV (Pt g21),isV (I x_8.coef),isV (Bo (decide (x_8.coef > 1000))),isV (Bo (((!x29) || (decide (x_8.coef < 1))) || (decide (x_8.coef > 1000)))),isV (Bo (((!x29) || (decide (x_8.coef < 1))) || (decide (x_8.coef > 1000)))),isV (I i_5),isV (Bo (decide ((i_5 : Int) > 0))),isV (Bo (decide ((i_5 : Int) > 0))),isV (undef),isV (undef),isV (undef),isV (undef),isV (undef),isV (undef),isV (undef),isV (undef),isV (undef),isV (undef)] [box g21 126 #[I x_8.coef,I x_8.lit],box g3 73 #[v0_0,I c.bound]] [] ([]) [([],[]),([],[]),([],[]),([],[]),([],[]),([],[]),([],[]),([],[]),([],[]),([],[]),([],[]),([],[]),([],[]),([],[]),([],[]),([],[]),([],[]),([],[]),([],[]),([],[]),([],[]),([],[]),([],[]),([],[]),([],[]),([],[]),([],[]),([],[])] (S:=[]) Tryd_mix (by kernel_rfl) rfl (by kernel_rfl) (amF_cons (mono_V _) (amF_cons (mono_V _) (amF_cons (mono_V _) (amF_cons (mono_V _) (amF_cons (mono_V _) (amF_cons (mono_V _) (amF_cons (mono_V _) (amF_cons (mono_V _) (amF_cons (mono_V _) (amF_cons (mono_V _) (amF_cons (mono_V _) (amF_cons (mono_V _) (amF_cons (mono_V _) (amF_cons (mono_V _) (amF_cons (mono_V _) (amF_cons (mono_V _) (amF_cons (mono_V _) (amF_cons (mono_V _) (amF_cons (mono_V _) (amF_cons (mono_V _) (amF_cons (mono_V _) (amF_cons (mono_V _) (amF_cons (mono_V _) (amF_cons (mono_V _) (amF_cons (mono_V _) (amF_cons (mono_V _) (amF_cons (mono_V _) (amF_cons (mono_V _) amF_nil)))))))))))))))))))))))))))) Z ?_ (fun f w_ H52 hS52 hE52 hT52 Z=>?_)
 refine opsS_cons (fun f w_ _ _ s _ _ Z=>fA 1 fa_126_1 ((s 4 rfl).trans rfl) rfl (nO rfl rfl Z)) (opsS_cons (fun f w_ _ _ _ _ p Z=>ldB 0 Z Tryd.isAgg3 (p 0 17 rfl rfl) rfl rfl (nO rfl rfl Z)) (opsS_cons ?_ ?_))
 intro f w_ H52 X52 hS52 hE52 hP52 Z
 obtain ⟨H325b,l326,s327,z328,k329⟩:=Z.borrow
 refine L_call rfl Tryd.call68 (ops1 (hP52 1 18 rfl rfl)) (s_l1Lit_c (n_:=x_8.lit) s327 hx29) ?_
 rintro _ w330 ⟨rfl,Z⟩
 have Z:=k329 Z c0
 exact L_nil ⟨rfl,_,_,rfl,Le.refl _,fun _ _=>rfl,Z⟩
 refine opsS_cons (fun f w_ _ _ _ _ p Z=>L_not_ rfl (p 2 19 rfl rfl) (nO rfl rfl Z)) (opsS_cons (fun f w_ _ _ _ _ p Z=>mF (p 3 20 rfl rfl) rfl (nO rfl rfl Z)) (opsS_cons (fun f w_ _ _ s _ p Z=>L_fa (o':=0) (g_yes rfl (Eq.trans (p 4 21 rfl rfl) (congrArg Value.bool hc56)) rfl) fa_126_0 ((s 4 rfl).trans rfl) rfl (nO rfl rfl Z)) (opsS_cons (fun f w_ _ _ _ _ p Z=>L_ld (v:=I x_8.coef) (g_yes rfl (Eq.trans (p 4 21 rfl rfl) (congrArg Value.bool hc56)) rfl) Tryd.isAgg3 (p 5 22 rfl rfl) (At.cell0 (Blk.at (Star.blkAt 0 Z rfl)) (j:=0) rfl) (nO rfl rfl Z)) (opsS_cons (fun f w_ _ _ _ _ p Z=>L_lss (g_yes rfl (Eq.trans (p 4 21 rfl rfl) (congrArg Value.bool hc56)) rfl) (p 6 23 rfl rfl) rfl (nO rfl rfl Z)) (opsS_cons (fun f w_ _ _ _ _ p Z=>pkT (v:=Bo ((!x29) || (decide (x_8.coef < 1)))) (p 4 21 rfl rfl) hc56 rfl (or_f hc56 (p 7 24 rfl rfl)) (nO rfl rfl Z)) (opsS_cons (fun f w_ _ _ _ _ p Z=>mF (p 8 25 rfl rfl) rfl (nO rfl rfl Z)) (opsS_cons (fun f w_ _ _ s _ p Z=>L_fa (o':=0) (g_yes rfl (Eq.trans (p 9 26 rfl rfl) (congrArg Value.bool hc194)) rfl) fa_126_0 ((s 4 rfl).trans rfl) rfl (nO rfl rfl Z)) (opsS_cons (fun f w_ _ _ _ _ p Z=>L_ld (v:=I x_8.coef) (g_yes rfl (Eq.trans (p 9 26 rfl rfl) (congrArg Value.bool hc194)) rfl) Tryd.isAgg3 (p 10 27 rfl rfl) (At.cell0 (Blk.at (Star.blkAt 0 Z rfl)) (j:=0) rfl) (nO rfl rfl Z)) (opsS_cons (fun f w_ _ _ _ _ p Z=>L_gtr (g_yes rfl (Eq.trans (p 9 26 rfl rfl) (congrArg Value.bool hc194)) rfl) (p 11 28 rfl rfl) rfl (nO rfl rfl Z)) (opsS_cons (fun f w_ _ _ _ _ p Z=>pkT (v:=Bo (((!x29) || (decide (x_8.coef < 1))) || (decide (x_8.coef > 1000)))) (p 9 26 rfl rfl) hc194 rfl (or_f hc194 (p 12 29 rfl rfl)) (nO rfl rfl Z)) (opsS_cons (fun f w_ _ _ _ _ p Z=>mF (p 13 30 rfl rfl) rfl (nO rfl rfl Z)) (opsS_cons (fun f w_ _ _ s _ p Z=>L_mv (v:=I i_5) (g_yes rfl (Eq.trans (p 14 31 rfl rfl) (congrArg Value.bool hc263)) rfl) ((s 3 rfl).trans sf3) (nO rfl rfl Z)) (opsS_cons (fun f w_ _ _ _ _ p Z=>L_gtr (g_yes rfl (Eq.trans (p 14 31 rfl rfl) (congrArg Value.bool hc263)) rfl) (p 15 32 rfl rfl) rfl (nO rfl rfl Z)) (opsS_cons (fun f w_ _ _ _ _ p Z=>L_mv (v:=Bo (decide ((i_5 : Int) > 0))) (g_yes rfl (Eq.trans (p 14 31 rfl rfl) (congrArg Value.bool hc263)) rfl) (p 16 33 rfl rfl) (nO rfl rfl Z)) (oP (fun _ _ p=>gN (p 17 34 rfl rfl) hc276 rfl) (fun _=>rfl) (oP (fun _ _ p=>gN (p 17 34 rfl rfl) hc276 rfl) (fun _=>rfl) (oP (fun _ _ p=>gN (p 17 34 rfl rfl) hc276 rfl) (fun _=>rfl) (oP (fun _ _ p=>gN (p 17 34 rfl rfl) hc276 rfl) (fun _=>rfl) (oP (fun _ _ p=>gN (p 17 34 rfl rfl) hc276 rfl) (fun _=>rfl) (oP (fun _ _ p=>gN (p 17 34 rfl rfl) hc276 rfl) (fun _=>rfl) (oP (fun _ _ p=>gN (p 17 34 rfl rfl) hc276 rfl) (fun _=>rfl) (oP (fun _ _ p=>gN (p 17 34 rfl rfl) hc276 rfl) (fun _=>rfl) (oP (fun _ _ p=>gN (p 17 34 rfl rfl) hc276 rfl) (fun _=>rfl) (oP (fun _ _ p=>gN (p 17 34 rfl rfl) hc276 rfl) (fun _=>rfl) (opsS_nil)))))))))))))))))))))))))
 refine ps (g_no rfl (Eq.trans (hT52 17 34 rfl rfl) (congrArg Value.bool hc276)) rfl rfl) (ps (g_no rfl (Eq.trans (hT52 17 34 rfl rfl) (congrArg Value.bool hc276)) rfl rfl) (L_pick (v:=Bo b50) (g_yes rfl (Eq.trans (hT52 14 31 rfl rfl) (congrArg Value.bool hc263)) rfl) (Eq.trans (hT52 17 34 rfl rfl) (congrArg Value.bool hc276)) (congrArg Value.bool (so hb50)) (L_pick (v:=Bo b51) rfl (Eq.trans (hT52 14 31 rfl rfl) (congrArg Value.bool hc263)) (congrArg Value.bool (so hb51)) (nn ?_))))
 have Z:=Z.get 1 rfl
 exact rj hR55 ⟨H52,hE52,((hS52 1 rfl).trans sf1),((hS52 3 rfl).trans sf3),rfl,(Star.keepN 1 Z)⟩
 intro f w_ hR
 obtain ⟨H53,l54,sf1,sf3,sf48,Z⟩:=rk hR55 hR
 refine W_cond (b:=b51) sf48 (fun hc331=>?_) (fun hc331=>?_)
 have hB8:=(ite_t hc331).symm.trans hB8
 refine sq (aB rfl (nn (W_ret (retG1 (v1:=Bo false) Tryd.results66 rfl ?_))))
 obtain rfl:=so hB8
 obtain rfl:=so hL8
 obtain rfl:=so hF
 exact ⟨rfl,(Star.down (Star.keepN 0 Z) (Le.trans l7 l54) c0)⟩
 have hB8:=(ite_f hc331).symm.trans hB8
 refine W_skip (W_region (mF sf3 rfl (L_add rfl rfl rfl (aI rfl (nn ?_)))))
 obtain rfl:=so hB8
 show ∃ m,m < _∧I8 m _ _
 refine ⟨rest8.length,by simp,?_⟩
 exact ij hI8 ⟨i_5 + 1,rest8,H53,rfl,drop_next hd8,by simp at hl8; omega,hL8,(Le.trans l7 l54),sf1,(Eq.trans rfl (congrArg (Value.int .i64) (i64_succ (n:=c.terms.length) (by simp at hl8; omega) hlen8))),Z⟩
 rcases suf8 with _ | ⟨_,_⟩
 obtain rfl:=range_nil hL8
 refine W_exit (rj hR8 ⟨H6,rfl,l7,sf1,Z⟩)
 exact absurd (of_decide_eq_false hc9) (by simp at hl8; omega)
 intro f w_ hR
 obtain ⟨H6,rfl,l7,sf1,Z⟩:=rk hR8 hR
 refine W_seq ?_
 obtain ⟨R332,hR332⟩:=exR fun f w_=>f 2 = Bo ((decide (c.bound ≥ 0)) && (decide (c.bound≤20000)))∧Star H6 w_ ([])
 refine W_join R332 ?_ ?_
 refine W_region (fA 1 fa_73_1 sf1 rfl (ldB 0 Z Tryd.isAgg3 rfl rfl rfl (L_geq rfl rfl rfl (mB rfl (L_split (d:=52) (b:=decide (c.bound ≥ 0)) rfl (fun hc333=>?_) (fun hc333=>?_))))))
 refine fA 1 fa_73_1 sf1 rfl (ldB 0 Z Tryd.isAgg3 rfl rfl rfl (L_leq rfl rfl rfl (L_pick (v:=Bo ((decide (c.bound ≥ 0)) && (decide (c.bound≤20000)))) rfl rfl (and_t hc333 rfl) (aB rfl (nn (rj hR332 ⟨rfl,(Star.keepN 0 Z)⟩))))))
 refine ps rfl (ps rfl (ps rfl (L_pick (v:=Bo ((decide (c.bound ≥ 0)) && (decide (c.bound≤20000)))) rfl rfl (and_f hc333) (aB rfl (nn (rj hR332 ⟨rfl,(Star.keepN 0 Z)⟩))))))
 intro f w_ hR
 obtain ⟨sf2,Z⟩:=rk hR332 hR
 refine W_ret (retG1 (v1:=Bo ((decide (c.bound ≥ 0)) && (decide (c.bound≤20000)))) Tryd.results66 sf2 ?_)
 obtain rfl:=so hF
 exact ⟨rfl,(Star.down Z l7 c0)⟩
theorem s_l1Name_c {fu : Nat} {lit : Int} {H : FH} {w : World} (Z : Star H w []) {r : ByteArray} (hF : s_l1Name fu lit = some r) :
 C Tryd.prog 69 #[I lit] w fun v w'=>v = .string r∧Star H w' []:=by
 unfold s_l1Name at hF
 refine C_enter Tryd.func69 rfl Tryd.ntmps69 rfl (sq (aV (.string (⟨#[]⟩ : ByteArray)) rfl (nq (sq (mI rfl (L_lss rfl rfl rfl (nn (W_cond (b:=decide (lit < 0)) rfl (fun hc1=>?_) (fun hc1=>?_)))))))))
 have hF:=(ite_t hc1).symm.trans hF
 refine W_seq ?_
 obtain ⟨x7,hx7,hF⟩:=bind_some hF
 obtain ⟨x9,hx9,hF⟩:=bind_some hF
 refine W_region (mI rfl (L_neg rfl rfl ?_))
 obtain ⟨H10b,l11,s12,z13,k14⟩:=Z.borrow
 refine L_call rfl Tryd.call59 (ops1 rfl) (s_l17Dec_c (n_:=i64 (-lit)) s12 hx7) ?_
 rintro _ w15 ⟨rfl,Z⟩
 have Z:=k14 Z c0
 obtain ⟨hx9_l,hx9_e⟩:=cat_some hx9
 refine L_sadd (s:=(⟨#[126,120]⟩ : ByteArray)) (s':=x7) rfl rfl rfl hx9_l ?_
 rw [← hx9_e]
 refine aV (.string x9) rfl (nn (W_ret (retG1 (v1:=.string x9) Tryd.results69 rfl ?_)))
 obtain rfl:=so hF
 exact ⟨rfl,Z⟩
 have hF:=(ite_f hc1).symm.trans hF
 refine W_skip (W_seq ?_)
 obtain ⟨x21,hx21,hF⟩:=bind_some hF
 obtain ⟨x23,hx23,hF⟩:=bind_some hF
 refine W_region (mI rfl ?_)
 obtain ⟨H24b,l25,s26,z27,k28⟩:=Z.borrow
 refine L_call rfl Tryd.call59 (ops1 rfl) (s_l17Dec_c (n_:=lit) s26 hx21) ?_
 rintro _ w29 ⟨rfl,Z⟩
 have Z:=k28 Z c0
 obtain ⟨hx23_l,hx23_e⟩:=cat_some hx23
 refine L_sadd (s:=(⟨#[120]⟩ : ByteArray)) (s':=x21) rfl rfl rfl hx23_l ?_
 rw [← hx23_e]
 refine aV (.string x23) rfl (nn (W_ret (retG1 (v1:=.string x23) Tryd.results69 rfl ?_)))
 obtain rfl:=so hF
 exact ⟨rfl,Z⟩
theorem s_l1Text_c {fu : Nat} {c : Con} {v0_0 : Value} {H : FH} {w : World} (Z : Star H w []) (h0_0 : (rS 126 rTerm).rel H [v0_0] c.terms) {r : ByteArray} (hF : s_l1Text fu c = some r) :
 C Tryd.prog 67 #[.agg #[v0_0,I c.bound]] w fun v w'=>v = .string r∧Star H w' []:=by
 unfold s_l1Text at hF
 refine C_enter Tryd.func67 rfl Tryd.ntmps67 rfl (sq (L_box (v:=.agg #[v0_0,I c.bound]) (cs:=#[v0_0,I c.bound]) rfl rfl rfl Z (fun g3 w4 Z=>aV (.string (⟨#[]⟩ : ByteArray)) rfl (ns (aV (.string (⟨#[]⟩ : ByteArray)) rfl (nq (sq (aI rfl (nn ?_)))))))))
 have hlen9 : List.length c.terms≤9223372036854775807:=len_le (slice_len h0_0)
 obtain ⟨j9,hL9,hF⟩:=bind_some hF
 obtain ⟨R9,hR9⟩:=exR fun f w_=>∃ out_6 : ByteArray,∃ H7 : FH,j9 = .nx out_6∧Le H H7∧f 1 = Pt g3∧f 3 = .string out_6∧Star H7 w_ ([box g3 73 #[v0_0,I c.bound]])
 refine W_join R9 ?_ ?_
 refine W_block ?_
 obtain ⟨I9,hI9⟩:=exI fun n f w_=>∃ i_5 : Nat,∃ suf9 : List Term,∃ out_6 : ByteArray,∃ H7 : FH,n = suf9.length∧List.drop i_5 c.terms = suf9∧i_5 + suf9.length = c.terms.length∧rangeL (s_l1Text_b1 fu) suf9 i_5 out_6 = some j9∧Le H H7∧f 1 = Pt g3∧f 3 = .string out_6∧f 4 = I i_5∧Star H7 w_ ([box g3 73 #[v0_0,I c.bound]])
 refine W_loop I9 (n:=c.terms.length) ?_ ?_
 exact ij hI9 ⟨0,c.terms,(⟨#[]⟩ : ByteArray),H,rfl,rfl,Nat.zero_add _,hL9,(Le.refl _),rfl,rfl,rfl,Z⟩
 intro n9 f w_ hI
 obtain ⟨i_5,suf9,out_6,H7,rfl,hd9,hl9,hL9,l8,sf1,sf3,sf4,Z⟩:=ik hI9 hI
 refine W_seq (sq (mF sf4 rfl (fA 0 fa_73_0 sf1 rfl (ldB 0 Z Tryd.isAgg71 rfl rfl rfl (L_len rfl Tryd.underlying71 rfl (slice_len (RP.mono _ h0_0 l8)) (L_lss rfl rfl rfl (nn (W_cond (b:=decide ((i_5 : Int) < (c.terms.length : Int))) rfl (fun hc10=>?_) (fun hc10=>?_)))))))))
 have hlt9:=of_decide_eq_true hc10
 rcases suf9 with _ | ⟨x_9,rest9⟩
 exact absurd hlt9 (by simp at hl9; omega)
 obtain ⟨o9,hB9,hL9⟩:=range_cons hL9
 rw [s_l1Text_b1] at hB9
 have hix9:=drop_idx hd9
 refine W_skip (W_seq (W_block ?_))
 obtain ⟨x20,hx20,hB9⟩:=bind_some hB9
 obtain ⟨x22,hx22,hB9⟩:=bind_some hB9
 obtain ⟨x23,hx23,hB9⟩:=bind_some hB9
 obtain ⟨x33,hx33,hB9⟩:=bind_some hB9
 obtain ⟨x35,hx35,hB9⟩:=bind_some hB9
 obtain ⟨x36,hx36,hB9⟩:=bind_some hB9
 refine W_drawS 17 [isV (.string out_6),isV (Pt g3),isV (v0_0),isV (I i_5),isEl rTerm x_9 0,isEl rTerm x_9 0,isV (I x_9.coef),isV (.string x20),isV (.string x22),isV (.string x23),isV (Pt g3),isV (v0_0),isV (I i_5),isEl rTerm x_9 0,isEl rTerm x_9 1,isV (I x_9.lit),isV (.string x33)] [box g3 73 #[v0_0,I c.bound]] [] ([]) [([],[]),([],[]),([],[]),([],[]),([],[]),([],[]),([],[]),([],[]),([],[]),([],[]),([],[]),([],[]),([],[]),([],[]),([],[]),([],[]),([],[])] (S:=[]) Tryd_mix (by kernel_rfl) rfl (by kernel_rfl) (amF_cons (mono_V _) (amF_cons (mono_V _) (amF_cons (mono_V _) (amF_cons (mono_V _) (amF_cons (mono_el _ _ _) (amF_cons (mono_el _ _ _) (amF_cons (mono_V _) (amF_cons (mono_V _) (amF_cons (mono_V _) (amF_cons (mono_V _) (amF_cons (mono_V _) (amF_cons (mono_V _) (amF_cons (mono_V _) (amF_cons (mono_el _ _ _) (amF_cons (mono_el _ _ _) (amF_cons (mono_V _) (amF_cons (mono_V _) amF_nil))))))))))))))))) Z ?_ (fun f w_ H37 hS37 hE37 hT37 Z=>?_)
 refine opsS_cons (fun f w_ _ _ s _ _ Z=>mF ((s 3 rfl).trans sf3) rfl (nO rfl rfl Z)) (opsS_cons (fun f w_ _ _ s _ _ Z=>fA 0 fa_73_0 ((s 1 rfl).trans sf1) rfl (nO rfl rfl Z)) (opsS_cons (fun f w_ _ _ _ _ p Z=>ldB 0 Z Tryd.isAgg71 (p 1 13 rfl rfl) rfl rfl (nO rfl rfl Z)) (opsS_cons (fun f w_ _ _ s _ _ Z=>mF ((s 4 rfl).trans sf4) rfl (nO rfl rfl Z)) (opsS_cons ?_ ?_))))
 intro f w_ H37 X37 hS37 hE37 hP37 Z
 refine L_ix (r:=rTerm) rfl Tryd.underlying71 Tryd.sizeOf126 (hP37 2 14 rfl rfl) (RP.mono _ h0_0 (Le.trans l8 hE37)) (hP37 3 15 rfl rfl) hix9 (fun g58 o59 cs_g58 hrk_hat60 hat60=>?_)
 obtain rfl:=rTerm_iff.1 hrk_hat60
 exact L_nil ⟨rfl,_,_,rfl,Le.refl _,fun _ _=>⟨_,_,_,rfl,hrk_hat60,hat60⟩,Z⟩
 refine opsS_cons ?_ ?_
 intro f w_ H37 X37 hS37 hE37 hP37 Z
 obtain ⟨g62,o62,cs62,hv62,hrk_hat62,hat62⟩:=(hP37 4 16 rfl rfl)
 obtain rfl:=rTerm_iff.1 hrk_hat62
 refine fA o62 fa_126_0 hv62 rfl (L_nil ⟨rfl,_,_,rfl,Le.refl _,fun _ _=>⟨_,_,_,rfl,hrk_hat62,hat62⟩,Z⟩)
 refine opsS_cons ?_ ?_
 intro f w_ H37 X37 hS37 hE37 hP37 Z
 obtain ⟨g64,o64,cs64,hv64,hrk_hat64,hat64⟩:=(hP37 5 17 rfl rfl)
 obtain rfl:=rTerm_iff.1 hrk_hat64
 refine L_ld rfl Tryd.isAgg3 hv64 (At.cell (AtH.at hat64 Z.sub) (j:=0) rfl) (L_nil ⟨rfl,_,_,rfl,Le.refl _,fun _ _=>rfl,Z⟩)
 refine opsS_cons ?_ ?_
 intro f w_ H37 X37 hS37 hE37 hP37 Z
 obtain ⟨H66b,l67,s68,z69,k70⟩:=Z.borrow
 refine L_call rfl Tryd.call59 (ops1 (hP37 6 18 rfl rfl)) (s_l17Dec_c (n_:=x_9.coef) s68 hx20) ?_
 rintro _ w71 ⟨rfl,Z⟩
 have Z:=k70 Z c0
 exact L_nil ⟨rfl,_,_,rfl,Le.refl _,fun _ _=>rfl,Z⟩
 refine opsS_cons ?_ ?_
 intro f w_ H37 X37 hS37 hE37 hP37 Z
 obtain ⟨hx22_l,hx22_e⟩:=cat_some hx22
 refine L_sadd (s:=out_6) (s':=x20) rfl (hP37 0 12 rfl rfl) (hP37 7 19 rfl rfl) hx22_l ?_
 rw [← hx22_e]
 exact L_nil ⟨rfl,_,_,rfl,Le.refl _,fun _ _=>rfl,Z⟩
 refine opsS_cons ?_ ?_
 intro f w_ H37 X37 hS37 hE37 hP37 Z
 obtain ⟨hx23_l,hx23_e⟩:=cat_some hx23
 refine L_sadd (s:=x22) (s':=(⟨#[32]⟩ : ByteArray)) rfl (hP37 8 20 rfl rfl) rfl hx23_l ?_
 rw [← hx23_e]
 exact L_nil ⟨rfl,_,_,rfl,Le.refl _,fun _ _=>rfl,Z⟩
 refine opsS_cons (fun f w_ _ _ s _ _ Z=>fA 0 fa_73_0 ((s 1 rfl).trans sf1) rfl (nO rfl rfl Z)) (opsS_cons (fun f w_ _ _ _ _ p Z=>ldB 0 Z Tryd.isAgg71 (p 10 22 rfl rfl) rfl rfl (nO rfl rfl Z)) (opsS_cons (fun f w_ _ _ s _ _ Z=>mF ((s 4 rfl).trans sf4) rfl (nO rfl rfl Z)) (opsS_cons ?_ ?_)))
 intro f w_ H37 X37 hS37 hE37 hP37 Z
 refine L_ix (r:=rTerm) rfl Tryd.underlying71 Tryd.sizeOf126 (hP37 11 23 rfl rfl) (RP.mono _ h0_0 (Le.trans l8 hE37)) (hP37 12 24 rfl rfl) hix9 (fun g72 o73 cs_g72 hrk_hat74 hat74=>?_)
 obtain rfl:=rTerm_iff.1 hrk_hat74
 exact L_nil ⟨rfl,_,_,rfl,Le.refl _,fun _ _=>⟨_,_,_,rfl,hrk_hat74,hat74⟩,Z⟩
 refine opsS_cons ?_ ?_
 intro f w_ H37 X37 hS37 hE37 hP37 Z
 obtain ⟨g76,o76,cs76,hv76,hrk_hat76,hat76⟩:=(hP37 13 25 rfl rfl)
 obtain rfl:=rTerm_iff.1 hrk_hat76
 refine fA (o76 + 1) fa_126_1 hv76 rfl (L_nil ⟨rfl,_,_,rfl,Le.refl _,fun _ _=>⟨_,_,_,rfl,hrk_hat76,hat76⟩,Z⟩)
 refine opsS_cons ?_ ?_
 intro f w_ H37 X37 hS37 hE37 hP37 Z
 obtain ⟨g78,o78,cs78,hv78,hrk_hat78,hat78⟩:=(hP37 14 26 rfl rfl)
 obtain rfl:=rTerm_iff.1 hrk_hat78
 refine L_ld rfl Tryd.isAgg3 hv78 (At.cell (AtH.at hat78 Z.sub) (j:=1) rfl) (L_nil ⟨rfl,_,_,rfl,Le.refl _,fun _ _=>rfl,Z⟩)
 refine opsS_cons ?_ ?_
 intro f w_ H37 X37 hS37 hE37 hP37 Z
 obtain ⟨H80b,l81,s82,z83,k84⟩:=Z.borrow
 refine L_call rfl Tryd.call69 (ops1 (hP37 15 27 rfl rfl)) (s_l1Name_c (lit:=x_9.lit) s82 hx33) ?_
 rintro _ w85 ⟨rfl,Z⟩
 have Z:=k84 Z c0
 exact L_nil ⟨rfl,_,_,rfl,Le.refl _,fun _ _=>rfl,Z⟩
 exact opsS_nil
 obtain ⟨hx35_l,hx35_e⟩:=cat_some hx35
 refine L_sadd (s:=x23) (s':=x33) rfl (hT37 9 21 rfl rfl) (hT37 16 28 rfl rfl) hx35_l ?_
 rw [← hx35_e]
 obtain ⟨hx36_l,hx36_e⟩:=cat_some hx36
 refine L_sadd (s:=x35) (s':=(⟨#[32]⟩ : ByteArray)) rfl rfl rfl hx36_l ?_
 rw [← hx36_e]
 refine aV (.string x36) rfl (nn (W_region (mF ((hS37 4 rfl).trans sf4) rfl (L_add rfl rfl rfl (aI rfl (nn ?_))))))
 obtain rfl:=so hB9
 show ∃ m,m < _∧I9 m _ _
 refine ⟨rest9.length,by simp,?_⟩
 exact ij hI9 ⟨i_5 + 1,rest9,x36,H37,rfl,drop_next hd9,by simp at hl9; omega,hL9,(Le.trans l8 hE37),((hS37 1 rfl).trans sf1),rfl,(Eq.trans rfl (congrArg (Value.int .i64) (i64_succ (n:=c.terms.length) (by simp at hl9; omega) hlen9))),Z⟩
 rcases suf9 with _ | ⟨_,_⟩
 obtain rfl:=range_nil hL9
 refine W_exit (rj hR9 ⟨out_6,H7,rfl,l8,sf1,sf3,Z⟩)
 exact absurd (of_decide_eq_false hc10) (by simp at hl9; omega)
 intro f w_ hR
 obtain ⟨out_6,H7,rfl,l8,sf1,sf3,Z⟩:=rk hR9 hR
 refine W_seq ?_
 obtain ⟨x86,hx86,hF⟩:=bind_some hF
 obtain ⟨x92,hx92,hF⟩:=bind_some hF
 obtain ⟨x94,hx94,hF⟩:=bind_some hF
 refine W_region (mF sf3 rfl ?_)
 obtain ⟨hx86_l,hx86_e⟩:=cat_some hx86
 refine L_sadd (s:=out_6) (s':=(⟨#[62,61,32]⟩ : ByteArray)) rfl rfl rfl hx86_l ?_
 rw [← hx86_e]
 refine fA 1 fa_73_1 sf1 rfl (ldB 0 Z Tryd.isAgg3 rfl rfl rfl ?_)
 obtain ⟨H95b,l96,s97,z98,k99⟩:=Z.borrow
 refine L_call rfl Tryd.call59 (ops1 rfl) (s_l17Dec_c (n_:=c.bound) s97 hx92) ?_
 rintro _ w100 ⟨rfl,Z⟩
 have Z:=k99 Z c0
 obtain ⟨hx94_l,hx94_e⟩:=cat_some hx94
 refine L_sadd (s:=x86) (s':=x92) rfl rfl rfl hx94_l ?_
 rw [← hx94_e]
 refine aV (.string x94) rfl (nn (W_ret (retG1 (v1:=.string x94) Tryd.results67 rfl ?_)))
 obtain rfl:=so hF
 exact ⟨rfl,(Star.down (Star.keepN 0 Z) l8 c0)⟩
theorem s_l4Line_c {fu : Nat} {s : Step} {v0_3 : Value} {H : FH} {w : World} (Z : Star H w []) (h0_3 : (rS 126 rTerm).rel H [v0_3] s.given.terms) {r : ByteArray} (hF : s_l4Line fu s = some r) :
 C Tryd.prog 40 #[.agg #[I s.kind,I s.a,I s.b,v0_3,I s.given.bound]] w fun v w'=>v = .string r∧Star H w' []:=by
 unfold s_l4Line at hF
 refine C_enter Tryd.func40 rfl Tryd.ntmps40 rfl (sq (L_box (v:=.agg #[I s.kind,I s.a,I s.b,v0_3,I s.given.bound]) (cs:=#[I s.kind,I s.a,I s.b,v0_3,I s.given.bound]) rfl rfl rfl Z (fun g3 w4 Z=>aV (.string (⟨#[]⟩ : ByteArray)) rfl (nq (W_seq ?_)))))
 obtain ⟨x10,hx10,hF⟩:=bind_some hF
 refine W_region (L_lda (cs:=[I s.kind,I s.a,I s.b,v0_3,I s.given.bound]) rfl Tryd.isAgg75 Tryd.sizeOf75 rfl (At.sub0 (Blk.at (Star.blkAt 0 Z rfl)) 0 5) rfl ?_)
 obtain ⟨H12b,l13,s14,z15,k16⟩:=Z.borrow
 refine L_call rfl Tryd.call64 (ops1 rfl) (s_l4Parts_c (s:=s) s14 (RP.mono _ h0_3 l13) hx10) ?_
 rintro _ w17 ⟨rfl,Z⟩
 have Z:=k16 Z c0
 refine L_not_ rfl rfl (nn (W_cond (b:=(!x10)) rfl (fun hc18=>?_) (fun hc18=>?_)))
 have hF:=(ite_t hc18).symm.trans hF
 refine sq (aV (.string (⟨#[]⟩ : ByteArray)) rfl (nn (W_ret (retG1 (v1:=.string (⟨#[]⟩ : ByteArray)) Tryd.results40 rfl ?_))))
 obtain rfl:=so hF
 exact ⟨rfl,(Star.keepN 0 Z)⟩
 have hF:=(ite_f hc18).symm.trans hF
 refine W_skip (W_seq ?_)
 obtain ⟨x24,hx24,hF⟩:=bind_some hF
 obtain ⟨x27,hx27,hF⟩:=bind_some hF
 refine W_drawS 3 [anyF,isV (Pt g3),isV (I s.kind)] [box g3 75 #[I s.kind,I s.a,I s.b,v0_3,I s.given.bound]] [.made 0 8 (fun v_=>oF 9 RP.str v_ x24) none] ([]) [([],[0]),([],[]),([],[])] (S:=[(some 0,[8],none)]) Tryd_mix (by kernel_rfl) rfl (by kernel_rfl) (amF_cons (mono_any) (amF_cons (mono_V _) (amF_cons (mono_V _) amF_nil))) Z ?_ (fun f w_ H32 hS32 hE32 hT32 Z=>?_)
 refine opsS_cons ?_ ?_
 intro f w_ H32 X32 hS32 hE32 hP32 Z
 obtain ⟨H40b,l41,s42,z43,k44⟩:=Z.borrow
 refine L_call rfl Tryd.call65 ops0 (s_l4Words_c s42 hx24) ?_
 rintro r45_0 w45 ⟨_,rfl,Z⟩
 have Z:=k44 Z (co closed_str c0)
 have Z:=Z.get 1 rfl
 exact L_nil ⟨rfl,_,_,rfl,Le.refl _,fun _ _=>trivial,Z⟩
 refine opsS_cons (fun f w_ _ _ s _ _ Z=>fA 0 fa_75_0 ((s 1 rfl).trans rfl) rfl (nO rfl rfl Z)) (opsS_cons (fun f w_ _ _ _ _ p Z=>ldB 0 Z Tryd.isAgg3 (p 1 9 rfl rfl) rfl rfl (nO rfl rfl Z)) (opsS_nil))
 have Z : Star H32 w_ ([box g3 75 #[I s.kind,I s.a,I s.b,v0_3,I s.given.bound],oF 9 RP.str (f 8) x24]):=Z
 obtain ⟨g48,cap_g48,hv49,_,_⟩:=Star.row 1 Z rfl hx27
 refine L_ixO (R:=(OR.frz RP.str)) (tb:=0) 0 rfl Tryd.underlying104 Tryd.sizeOf9 rfl hv49 (by first | rfl | simp) (hT32 2 10 rfl rfl) hx27 ?_
 obtain ⟨cs50,hr50,hat50⟩:=Star.eltF 1 Z rfl hv49 hx27
 obtain rfl : _ = [_]:=hr50
 refine L_ld rfl Tryd.isAgg9 rfl (At.cell hat50 (j:=0) rfl) (aV (.string x27) rfl (nq (sq (fA 0 fa_75_0 ((hS32 1 rfl).trans rfl) rfl (ldB 0 Z Tryd.isAgg3 rfl rfl rfl (L_eql rfl rfl rfl (nn (W_cond (b:=(s.kind == 7)) rfl (fun hc52=>?_) (fun hc52=>?_)))))))))
 have hF:=(ite_t hc52).symm.trans hF
 refine W_seq (W_seq ?_)
 obtain ⟨x58,hx58,hF⟩:=bind_some hF
 refine W_region (fA 3 fa_75_3 ((hS32 1 rfl).trans rfl) rfl (L_lda (cs:=[v0_3,I s.given.bound]) rfl Tryd.isAgg73 Tryd.sizeOf73 rfl (At.sub0 (Blk.at (Star.blkAt 0 Z rfl)) 3 2) rfl ?_))
 obtain ⟨H60b,l61,s62,z63,k64⟩:=Z.borrow
 refine L_call rfl Tryd.call66 (ops1 rfl) (s_ConstraintValid_c (c:=s.given) s62 (RP.mono _ h0_3 (Le.trans hE32 l61)) hx58) ?_
 rintro _ w65 ⟨rfl,Z⟩
 have Z:=k64 Z c0
 refine L_not_ rfl rfl (nn (W_cond (b:=(!x58)) rfl (fun hc66=>?_) (fun hc66=>?_)))
 have hF:=(ite_t hc66).symm.trans hF
 refine sq (aV (.string (⟨#[]⟩ : ByteArray)) rfl (nn (W_ret (retG1 (v1:=.string (⟨#[]⟩ : ByteArray)) Tryd.results40 rfl ?_))))
 obtain rfl:=so hF
 exact ⟨rfl,(Star.down (Star.keepN 0 Z) hE32 c0)⟩
 have hF:=(ite_f hc66).symm.trans hF
 refine W_skip (W_seq ?_)
 obtain ⟨x67,hx67,hF⟩:=bind_some hF
 obtain ⟨x73,hx73,hF⟩:=bind_some hF
 obtain ⟨x75,hx75,hF⟩:=bind_some hF
 refine W_region (mV (.string x27) rfl ?_)
 obtain ⟨hx67_l,hx67_e⟩:=cat_some hx67
 refine L_sadd (s:=x27) (s':=(⟨#[32]⟩ : ByteArray)) rfl rfl rfl hx67_l ?_
 rw [← hx67_e]
 refine fA 3 fa_75_3 ((hS32 1 rfl).trans rfl) rfl (L_lda (cs:=[v0_3,I s.given.bound]) rfl Tryd.isAgg73 Tryd.sizeOf73 rfl (At.sub0 (Blk.at (Star.blkAt 0 Z rfl)) 3 2) rfl ?_)
 obtain ⟨H76b,l77,s78,z79,k80⟩:=Z.borrow
 refine L_call rfl Tryd.call67 (ops1 rfl) (s_l1Text_c (c:=s.given) s78 (RP.mono _ h0_3 (Le.trans hE32 l77)) hx73) ?_
 rintro _ w81 ⟨rfl,Z⟩
 have Z:=k80 Z c0
 obtain ⟨hx75_l,hx75_e⟩:=cat_some hx75
 refine L_sadd (s:=x67) (s':=x73) rfl rfl rfl hx75_l ?_
 rw [← hx75_e]
 refine aV (.string x75) rfl (nn (W_ret (retG1 (v1:=.string x75) Tryd.results40 rfl ?_)))
 obtain rfl:=so hF
 exact ⟨rfl,(Star.down (Star.keepN 0 Z) hE32 c0)⟩
 have hF:=(ite_f hc52).symm.trans hF
 refine W_skip (W_seq (sq (fA 0 fa_75_0 ((hS32 1 rfl).trans rfl) rfl (ldB 0 Z Tryd.isAgg3 rfl rfl rfl (L_eql rfl rfl rfl (nn (W_cond (b:=(s.kind == 6)) rfl (fun hc82=>?_) (fun hc82=>?_))))))))
 have hF:=(ite_t hc82).symm.trans hF
 refine W_seq (W_seq ?_)
 obtain ⟨x88,hx88,hF⟩:=bind_some hF
 refine W_region (fA 1 fa_75_1 ((hS32 1 rfl).trans rfl) rfl (ldB 0 Z Tryd.isAgg3 rfl rfl rfl ?_))
 obtain ⟨H90b,l91,s92,z93,k94⟩:=Z.borrow
 refine L_call rfl Tryd.call68 (ops1 rfl) (s_l1Lit_c (n_:=s.a) s92 hx88) ?_
 rintro _ w95 ⟨rfl,Z⟩
 have Z:=k94 Z c0
 refine L_not_ rfl rfl (nn (W_cond (b:=(!x88)) rfl (fun hc96=>?_) (fun hc96=>?_)))
 have hF:=(ite_t hc96).symm.trans hF
 refine sq (aV (.string (⟨#[]⟩ : ByteArray)) rfl (nn (W_ret (retG1 (v1:=.string (⟨#[]⟩ : ByteArray)) Tryd.results40 rfl ?_))))
 obtain rfl:=so hF
 exact ⟨rfl,(Star.down (Star.keepN 0 Z) hE32 c0)⟩
 have hF:=(ite_f hc96).symm.trans hF
 refine W_skip (W_seq ?_)
 obtain ⟨x97,hx97,hF⟩:=bind_some hF
 obtain ⟨x103,hx103,hF⟩:=bind_some hF
 obtain ⟨x105,hx105,hF⟩:=bind_some hF
 refine W_region (mV (.string x27) rfl ?_)
 obtain ⟨hx97_l,hx97_e⟩:=cat_some hx97
 refine L_sadd (s:=x27) (s':=(⟨#[32]⟩ : ByteArray)) rfl rfl rfl hx97_l ?_
 rw [← hx97_e]
 refine fA 1 fa_75_1 ((hS32 1 rfl).trans rfl) rfl (ldB 0 Z Tryd.isAgg3 rfl rfl rfl ?_)
 obtain ⟨H106b,l107,s108,z109,k110⟩:=Z.borrow
 refine L_call rfl Tryd.call69 (ops1 rfl) (s_l1Name_c (lit:=s.a) s108 hx103) ?_
 rintro _ w111 ⟨rfl,Z⟩
 have Z:=k110 Z c0
 obtain ⟨hx105_l,hx105_e⟩:=cat_some hx105
 refine L_sadd (s:=x97) (s':=x103) rfl rfl rfl hx105_l ?_
 rw [← hx105_e]
 refine aV (.string x105) rfl (nn (W_ret (retG1 (v1:=.string x105) Tryd.results40 rfl ?_)))
 obtain rfl:=so hF
 exact ⟨rfl,(Star.down (Star.keepN 0 Z) hE32 c0)⟩
 have hF:=(ite_f hc82).symm.trans hF
 refine W_skip (W_seq (W_seq ?_))
 obtain ⟨R112,hR112⟩:=exR fun f w_=>f 1 = Pt g3∧f 3 = .string x27∧f 56 = Bo ((((decide (s.a < 0)) || (decide (s.a > 20000))) || (decide (s.b < 0))) || (decide (s.b > 20000)))∧Star H32 w_ ([box g3 75 #[I s.kind,I s.a,I s.b,v0_3,I s.given.bound]])
 refine W_join R112 ?_ ?_
 refine W_region (fA 1 fa_75_1 ((hS32 1 rfl).trans rfl) rfl (ldB 0 Z Tryd.isAgg3 rfl rfl rfl (L_lss rfl rfl rfl (mB rfl (L_split (d:=42) (b:=decide (s.a < 0)) rfl (fun hc113=>?_) (fun hc113=>?_))))))
 refine ps rfl (ps rfl (ps rfl (L_pick (v:=Bo ((decide (s.a < 0)) || (decide (s.a > 20000)))) rfl rfl (or_t hc113) (mB rfl (L_split (d:=47) (b:=((decide (s.a < 0)) || (decide (s.a > 20000)))) rfl (fun hc114=>?_) (fun hc114=>?_))))))
 refine ps rfl (ps rfl (ps rfl (L_pick (v:=Bo (((decide (s.a < 0)) || (decide (s.a > 20000))) || (decide (s.b < 0)))) rfl rfl (or_t hc114) (mB rfl (L_split (d:=52) (b:=(((decide (s.a < 0)) || (decide (s.a > 20000))) || (decide (s.b < 0)))) rfl (fun hc115=>?_) (fun hc115=>?_))))))
 refine ps rfl (ps rfl (ps rfl (L_pick (v:=Bo ((((decide (s.a < 0)) || (decide (s.a > 20000))) || (decide (s.b < 0))) || (decide (s.b > 20000)))) rfl rfl (or_t hc115) (nn (rj hR112 ⟨((hS32 1 rfl).trans rfl),rfl,rfl,(Star.keepN 1 Z)⟩)))))
 refine fA 2 fa_75_2 ((hS32 1 rfl).trans rfl) rfl (ldB 0 Z Tryd.isAgg3 rfl rfl rfl (L_gtr rfl rfl rfl (L_pick (v:=Bo ((((decide (s.a < 0)) || (decide (s.a > 20000))) || (decide (s.b < 0))) || (decide (s.b > 20000)))) rfl rfl (or_f hc115 rfl) (nn (rj hR112 ⟨((hS32 1 rfl).trans rfl),rfl,rfl,(Star.keepN 1 Z)⟩)))))
 refine fA 2 fa_75_2 ((hS32 1 rfl).trans rfl) rfl (ldB 0 Z Tryd.isAgg3 rfl rfl rfl (L_lss rfl rfl rfl (L_pick (v:=Bo (((decide (s.a < 0)) || (decide (s.a > 20000))) || (decide (s.b < 0)))) rfl rfl (or_f hc114 rfl) (mB rfl (L_split (d:=52) (b:=(((decide (s.a < 0)) || (decide (s.a > 20000))) || (decide (s.b < 0)))) rfl (fun hc116=>?_) (fun hc116=>?_))))))
 refine ps rfl (ps rfl (ps rfl (L_pick (v:=Bo ((((decide (s.a < 0)) || (decide (s.a > 20000))) || (decide (s.b < 0))) || (decide (s.b > 20000)))) rfl rfl (or_t hc116) (nn (rj hR112 ⟨((hS32 1 rfl).trans rfl),rfl,rfl,(Star.keepN 1 Z)⟩)))))
 refine fA 2 fa_75_2 ((hS32 1 rfl).trans rfl) rfl (ldB 0 Z Tryd.isAgg3 rfl rfl rfl (L_gtr rfl rfl rfl (L_pick (v:=Bo ((((decide (s.a < 0)) || (decide (s.a > 20000))) || (decide (s.b < 0))) || (decide (s.b > 20000)))) rfl rfl (or_f hc116 rfl) (nn (rj hR112 ⟨((hS32 1 rfl).trans rfl),rfl,rfl,(Star.keepN 1 Z)⟩)))))
 refine fA 1 fa_75_1 ((hS32 1 rfl).trans rfl) rfl (ldB 0 Z Tryd.isAgg3 rfl rfl rfl (L_gtr rfl rfl rfl (L_pick (v:=Bo ((decide (s.a < 0)) || (decide (s.a > 20000)))) rfl rfl (or_f hc113 rfl) (mB rfl (L_split (d:=47) (b:=((decide (s.a < 0)) || (decide (s.a > 20000)))) rfl (fun hc117=>?_) (fun hc117=>?_))))))
 refine ps rfl (ps rfl (ps rfl (L_pick (v:=Bo (((decide (s.a < 0)) || (decide (s.a > 20000))) || (decide (s.b < 0)))) rfl rfl (or_t hc117) (mB rfl (L_split (d:=52) (b:=(((decide (s.a < 0)) || (decide (s.a > 20000))) || (decide (s.b < 0)))) rfl (fun hc118=>?_) (fun hc118=>?_))))))
 refine ps rfl (ps rfl (ps rfl (L_pick (v:=Bo ((((decide (s.a < 0)) || (decide (s.a > 20000))) || (decide (s.b < 0))) || (decide (s.b > 20000)))) rfl rfl (or_t hc118) (nn (rj hR112 ⟨((hS32 1 rfl).trans rfl),rfl,rfl,(Star.keepN 1 Z)⟩)))))
 refine fA 2 fa_75_2 ((hS32 1 rfl).trans rfl) rfl (ldB 0 Z Tryd.isAgg3 rfl rfl rfl (L_gtr rfl rfl rfl (L_pick (v:=Bo ((((decide (s.a < 0)) || (decide (s.a > 20000))) || (decide (s.b < 0))) || (decide (s.b > 20000)))) rfl rfl (or_f hc118 rfl) (nn (rj hR112 ⟨((hS32 1 rfl).trans rfl),rfl,rfl,(Star.keepN 1 Z)⟩)))))
 refine fA 2 fa_75_2 ((hS32 1 rfl).trans rfl) rfl (ldB 0 Z Tryd.isAgg3 rfl rfl rfl (L_lss rfl rfl rfl (L_pick (v:=Bo (((decide (s.a < 0)) || (decide (s.a > 20000))) || (decide (s.b < 0)))) rfl rfl (or_f hc117 rfl) (mB rfl (L_split (d:=52) (b:=(((decide (s.a < 0)) || (decide (s.a > 20000))) || (decide (s.b < 0)))) rfl (fun hc119=>?_) (fun hc119=>?_))))))
 refine ps rfl (ps rfl (ps rfl (L_pick (v:=Bo ((((decide (s.a < 0)) || (decide (s.a > 20000))) || (decide (s.b < 0))) || (decide (s.b > 20000)))) rfl rfl (or_t hc119) (nn (rj hR112 ⟨((hS32 1 rfl).trans rfl),rfl,rfl,(Star.keepN 1 Z)⟩)))))
 refine fA 2 fa_75_2 ((hS32 1 rfl).trans rfl) rfl (ldB 0 Z Tryd.isAgg3 rfl rfl rfl (L_gtr rfl rfl rfl (L_pick (v:=Bo ((((decide (s.a < 0)) || (decide (s.a > 20000))) || (decide (s.b < 0))) || (decide (s.b > 20000)))) rfl rfl (or_f hc119 rfl) (nn (rj hR112 ⟨((hS32 1 rfl).trans rfl),rfl,rfl,(Star.keepN 1 Z)⟩)))))
 intro f w_ hR
 obtain ⟨sf1,sf3,sf56,Z⟩:=rk hR112 hR
 refine W_cond (b:=((((decide (s.a < 0)) || (decide (s.a > 20000))) || (decide (s.b < 0))) || (decide (s.b > 20000)))) sf56 (fun hc120=>?_) (fun hc120=>?_)
 have hF:=(ite_t hc120).symm.trans hF
 refine sq (aV (.string (⟨#[]⟩ : ByteArray)) rfl (nn (W_ret (retG1 (v1:=.string (⟨#[]⟩ : ByteArray)) Tryd.results40 rfl ?_))))
 obtain rfl:=so hF
 exact ⟨rfl,(Star.down (Star.keepN 0 Z) hE32 c0)⟩
 have hF:=(ite_f hc120).symm.trans hF
 refine W_skip (W_seq ?_)
 obtain ⟨x121,hx121,hF⟩:=bind_some hF
 obtain ⟨x127,hx127,hF⟩:=bind_some hF
 obtain ⟨x129,hx129,hF⟩:=bind_some hF
 refine W_region (mF sf3 rfl ?_)
 obtain ⟨hx121_l,hx121_e⟩:=cat_some hx121
 refine L_sadd (s:=x27) (s':=(⟨#[32]⟩ : ByteArray)) rfl rfl rfl hx121_l ?_
 rw [← hx121_e]
 refine fA 1 fa_75_1 sf1 rfl (ldB 0 Z Tryd.isAgg3 rfl rfl rfl ?_)
 obtain ⟨H130b,l131,s132,z133,k134⟩:=Z.borrow
 refine L_call rfl Tryd.call59 (ops1 rfl) (s_l17Dec_c (n_:=s.a) s132 hx127) ?_
 rintro _ w135 ⟨rfl,Z⟩
 have Z:=k134 Z c0
 obtain ⟨hx129_l,hx129_e⟩:=cat_some hx129
 refine L_sadd (s:=x121) (s':=x127) rfl rfl rfl hx129_l ?_
 rw [← hx129_e]
 refine aV (.string x129) rfl (nq (W_seq ?_))
 obtain ⟨R136,hR136⟩:=exR fun f w_=>f 1 = Pt g3∧f 4 = .string x129∧f 70 = Bo ((s.kind != 4) && (s.kind != 8))∧Star H32 w_ ([box g3 75 #[I s.kind,I s.a,I s.b,v0_3,I s.given.bound]])
 refine W_join R136 ?_ ?_
 refine W_region (fA 0 fa_75_0 sf1 rfl (ldB 0 Z Tryd.isAgg3 rfl rfl rfl (L_neq rfl rfl rfl (mB rfl (L_split (d:=66) (b:=(s.kind != 4)) rfl (fun hc137=>?_) (fun hc137=>?_))))))
 refine fA 0 fa_75_0 sf1 rfl (ldB 0 Z Tryd.isAgg3 rfl rfl rfl (L_neq rfl rfl rfl (L_pick (v:=Bo ((s.kind != 4) && (s.kind != 8))) rfl rfl (and_t hc137 rfl) (nn (rj hR136 ⟨sf1,rfl,rfl,Z⟩)))))
 refine ps rfl (ps rfl (ps rfl (L_pick (v:=Bo ((s.kind != 4) && (s.kind != 8))) rfl rfl (and_f hc137) (nn (rj hR136 ⟨sf1,rfl,rfl,Z⟩)))))
 intro f w_ hR
 obtain ⟨sf1,sf4,sf70,Z⟩:=rk hR136 hR
 obtain ⟨out_138,hA139,hF⟩:=bind_some hF
 obtain ⟨R139,hR139⟩:=exR fun f w_=>f 4 = .string out_138∧Star H32 w_ ([])
 refine W_join R139 ?_ ?_
 refine W_cond (b:=((s.kind != 4) && (s.kind != 8))) sf70 (fun hc140=>?_) (fun hc140=>?_)
 have hA139:=(ite_t hc140).symm.trans hA139
 obtain ⟨x141,hx141,hA139⟩:=bind_some hA139
 obtain ⟨x147,hx147,hA139⟩:=bind_some hA139
 obtain ⟨x149,hx149,hA139⟩:=bind_some hA139
 refine W_region (mF sf4 rfl ?_)
 obtain ⟨hx141_l,hx141_e⟩:=cat_some hx141
 refine L_sadd (s:=x129) (s':=(⟨#[32]⟩ : ByteArray)) rfl rfl rfl hx141_l ?_
 rw [← hx141_e]
 refine fA 2 fa_75_2 sf1 rfl (ldB 0 Z Tryd.isAgg3 rfl rfl rfl ?_)
 obtain ⟨H150b,l151,s152,z153,k154⟩:=Z.borrow
 refine L_call rfl Tryd.call59 (ops1 rfl) (s_l17Dec_c (n_:=s.b) s152 hx147) ?_
 rintro _ w155 ⟨rfl,Z⟩
 have Z:=k154 Z c0
 obtain ⟨hx149_l,hx149_e⟩:=cat_some hx149
 refine L_sadd (s:=x141) (s':=x147) rfl rfl rfl hx149_l ?_
 rw [← hx149_e]
 refine aV (.string x149) rfl (nn ?_)
 obtain rfl:=so hA139
 exact rj hR139 ⟨rfl,(Star.keepN 0 Z)⟩
 have hA139:=(ite_f hc140).symm.trans hA139
 refine W_skip ?_
 obtain rfl:=so hA139
 exact rj hR139 ⟨sf4,(Star.keepN 0 Z)⟩
 intro f w_ hR
 obtain ⟨sf4,Z⟩:=rk hR139 hR
 refine sq (mF sf4 rfl (aV (.string out_138) rfl (nn (W_ret (retG1 (v1:=.string out_138) Tryd.results40 rfl ?_)))))
 obtain rfl:=so hF
 exact ⟨rfl,(Star.down Z hE32 c0)⟩
theorem s_FormatProof_c {fu : Nat} {steps : List Step} {v0 : Value} {H : FH} {w : World} (Z : Star H w []) (h0 : (rS 75 (rStep 126)).rel H [v0] steps) {r : ByteArray} (hF : s_FormatProof fu steps = some r) :
 C Tryd.prog 15 #[v0] w fun v w'=>v = .string r∧Star H w' []:=by
 unfold s_FormatProof at hF
 refine C_enter Tryd.func15 rfl Tryd.ntmps15 rfl (sq (aV (.string (⟨#[]⟩ : ByteArray)) rfl (ns (aV (.string (⟨#[]⟩ : ByteArray)) rfl (nq (sq (mV v0 rfl (L_len rfl Tryd.underlying41 rfl (slice_len h0) (L_gtr rfl rfl rfl (nn (W_cond (b:=decide ((steps.length : Int) > 1000)) rfl (fun hc1=>?_) (fun hc1=>?_))))))))))))
 have hF:=(ite_t hc1).symm.trans hF
 refine sq (mV (.string (⟨#[]⟩ : ByteArray)) rfl (aV (.string (⟨#[]⟩ : ByteArray)) rfl (nn (W_ret (retG1 (v1:=.string (⟨#[]⟩ : ByteArray)) Tryd.results15 rfl ?_)))))
 obtain rfl:=so hF
 exact ⟨rfl,Z⟩
 have hF:=(ite_f hc1).symm.trans hF
 refine W_skip (W_seq (sq (aI rfl (nn ?_))))
 have hlen4 : List.length steps≤9223372036854775807:=len_le (slice_len h0)
 obtain ⟨j4,hL4,hF⟩:=bind_some hF
 obtain ⟨R4,hR4⟩:=exR fun f w_=>∃ out_3 : ByteArray,j4 = .nx out_3∧f 3 = .string out_3∧Star H w_ ([])
 refine W_join R4 ?_ ?_
 refine W_block ?_
 obtain ⟨I4,hI4⟩:=exI fun n f w_=>∃ i_2 : Nat,∃ suf4 : List Step,∃ out_3 : ByteArray,n = suf4.length∧List.drop i_2 steps = suf4∧i_2 + suf4.length = steps.length∧rangeL (s_FormatProof_b1 fu) suf4 i_2 out_3 = some j4∧f 0 = v0∧f 3 = .string out_3∧f 4 = I i_2∧Star H w_ ([])
 refine W_loop I4 (n:=steps.length) ?_ ?_
 exact ij hI4 ⟨0,steps,(⟨#[]⟩ : ByteArray),rfl,rfl,Nat.zero_add _,hL4,rfl,rfl,rfl,Z⟩
 intro n4 f w_ hI
 obtain ⟨i_2,suf4,out_3,rfl,hd4,hl4,hL4,sf0,sf3,sf4,Z⟩:=ik hI4 hI
 refine W_seq (sq (mF sf4 rfl (mF sf0 rfl (L_len rfl Tryd.underlying41 rfl (slice_len h0) (L_lss rfl rfl rfl (nn (W_cond (b:=decide ((i_2 : Int) < (steps.length : Int))) rfl (fun hc5=>?_) (fun hc5=>?_))))))))
 have hlt4:=of_decide_eq_true hc5
 rcases suf4 with _ | ⟨x_4,rest4⟩
 exact absurd hlt4 (by simp at hl4; omega)
 obtain ⟨o4,hB4,hL4⟩:=range_cons hL4
 rw [s_FormatProof_b1] at hB4
 have hix4:=drop_idx hd4
 refine W_skip (W_seq (W_block (W_seq ?_)))
 obtain ⟨x15,hx15,hB4⟩:=bind_some hB4
 refine W_region (mF sf0 rfl (mF sf4 rfl (L_ix (r:=(rStep 126)) rfl Tryd.underlying41 Tryd.sizeOf75 rfl h0 rfl hix4 (fun g17 o18 cs_g17 hrk_hat19 hat19=>?_))))
 obtain ⟨u20_0,rfl,hu20_0⟩:=rStep_iff.1 hrk_hat19
 refine L_lda (cs:=[I x_4.kind,I x_4.a,I x_4.b,u20_0,I x_4.given.bound]) rfl Tryd.isAgg75 Tryd.sizeOf75 rfl (At.sub (AtH.at hat19 Z.sub) 0 5) rfl ?_
 obtain ⟨H21b,l22,s23,z24,k25⟩:=Z.borrow
 refine L_call rfl Tryd.call40 (ops1 rfl) (s_l4Line_c (s:=x_4) s23 (RP.mono _ hu20_0 l22) hx15) ?_
 rintro _ w26 ⟨rfl,Z⟩
 have Z:=k25 Z c0
 refine aV (.string x15) rfl (nq (sq (mV (.string x15) rfl (L_seql (s:=x15) (s':=(⟨#[]⟩ : ByteArray)) rfl rfl rfl (nn (W_cond (b:=(ByteArray.toList x15 == ByteArray.toList (⟨#[]⟩ : ByteArray))) rfl (fun hc27=>?_) (fun hc27=>?_)))))))
 have hB4:=(ite_t hc27).symm.trans hB4
 refine sq (aV (.string (⟨#[]⟩ : ByteArray)) rfl (nn (W_ret (retG1 (v1:=.string (⟨#[]⟩ : ByteArray)) Tryd.results15 rfl ?_))))
 obtain rfl:=so hB4
 obtain rfl:=so hL4
 obtain rfl:=so hF
 exact ⟨rfl,Z⟩
 have hB4:=(ite_f hc27).symm.trans hB4
 refine W_skip ?_
 obtain ⟨x28,hx28,hB4⟩:=bind_some hB4
 obtain ⟨x29,hx29,hB4⟩:=bind_some hB4
 refine W_region (mF sf3 rfl (mV (.string x15) rfl ?_))
 obtain ⟨hx28_l,hx28_e⟩:=cat_some hx28
 refine L_sadd (s:=out_3) (s':=x15) rfl rfl rfl hx28_l ?_
 rw [← hx28_e]
 obtain ⟨hx29_l,hx29_e⟩:=cat_some hx29
 refine L_sadd (s:=x28) (s':=(⟨#[10]⟩ : ByteArray)) rfl rfl rfl hx29_l ?_
 rw [← hx29_e]
 refine aV (.string x29) rfl (nn (W_region (mF sf4 rfl (L_add rfl rfl rfl (aI rfl (nn ?_))))))
 obtain rfl:=so hB4
 show ∃ m,m < _∧I4 m _ _
 refine ⟨rest4.length,by simp,?_⟩
 exact ij hI4 ⟨i_2 + 1,rest4,x29,rfl,drop_next hd4,by simp at hl4; omega,hL4,sf0,rfl,(Eq.trans rfl (congrArg (Value.int .i64) (i64_succ (n:=steps.length) (by simp at hl4; omega) hlen4))),Z⟩
 rcases suf4 with _ | ⟨_,_⟩
 obtain rfl:=range_nil hL4
 refine W_exit (rj hR4 ⟨out_3,rfl,sf3,Z⟩)
 exact absurd (of_decide_eq_false hc5) (by simp at hl4; omega)
 intro f w_ hR
 obtain ⟨out_3,rfl,sf3,Z⟩:=rk hR4 hR
 refine sq (mF sf3 rfl (aV (.string out_3) rfl (nn (W_ret (retG1 (v1:=.string out_3) Tryd.results15 rfl ?_)))))
 obtain rfl:=so hF
 exact ⟨rfl,Z⟩
theorem l_toTerm_c {a : Term} {H : FH} {w : World} (Z : Star H w []) {r : Term} (hF : l_toTerm a = some r) :
 C Tryd.prog 107 #[.agg #[I a.coef,I a.lit]] w fun v w'=>v = .agg #[I r.coef,I r.lit]∧Star H w' []:=by
 unfold l_toTerm at hF
 refine C_enter Tryd.func107 rfl Tryd.ntmps107 rfl (sq (L_box (v:=.agg #[I a.coef,I a.lit]) (cs:=#[I a.coef,I a.lit]) rfl rfl rfl Z (fun g5 w6 Z=>L_al (cs:=#[I 0,I 0]) rfl Tryd.zeroValue126 rfl Z (fun g7 w8 Z=>ns (L_al (cs:=#[I 0,I 0]) rfl Tryd.zeroValue126 rfl Z (fun g11 w12 Z=>ns (fA 0 fa_134_0 rfl rfl (ldB 2 Z Tryd.isAgg3 rfl rfl rfl (fA 0 fa_126_0 rfl rfl (L_stB (v:=I a.coef) (cs2:=#[I a.coef,I 0]) 0 rfl Tryd.sizeOf3 rfl rfl rfl Z rfl rfl rfl (fun w14 Z=>ns (fA 1 fa_134_1 rfl rfl (ldB 2 Z Tryd.isAgg3 rfl rfl rfl (fA 1 fa_126_1 rfl rfl (L_stB (v:=I a.lit) (cs2:=#[I a.coef,I a.lit]) 0 rfl Tryd.sizeOf3 rfl rfl rfl Z rfl rfl rfl (fun w16 Z=>ns (L_lda (cs:=[I a.coef,I a.lit]) rfl Tryd.isAgg126 Tryd.sizeOf126 rfl (At.sub0 (Blk.at (Star.blkAt 0 Z rfl)) 0 2) rfl (L_staB (vs:=#[I a.coef,I a.lit]) (cs2:=#[I a.coef,I a.lit]) 1 rfl Tryd.sizeOf126 rfl rfl rfl (ones_cons rfl (ones_cons rfl ones_nil)) Z rfl (by show 0 + 2≤2; decide) rfl (fun w18 Z=>nn (W_ret (retG1 (v1:=.agg #[I a.coef,I a.lit]) Tryd.results107 (resV_agg Tryd.isAgg126 Tryd.sizeOf126 rfl (Star.blkAt 0 Z rfl) rfl) ?_)))))))))))))))))))))
 obtain rfl:=so hF
 exact ⟨rfl,(Star.keepN 0 Z)⟩
theorem l_toTermS_c {a : List Term} {v0 : Value} {H : FH} {w : World} (Z : Star H w []) (h0 : (rS 134 rTerm).rel H [v0] a) {r : List Term} (hF : l_toTermS a = some r) :
 C Tryd.prog 98 #[v0] w fun v w'=>∃ (u1 : Value),v = u1∧Star H w' [oF 126 rTerm u1 r]:=by
 unfold l_toTermS at hF
 refine C_enter Tryd.func98 rfl Tryd.ntmps98 rfl (sq (aV S0 rfl (nq ?_)))
 obtain ⟨x1,hx1,hF⟩:=bind_some hF
 refine W_region (mV v0 rfl (L_len rfl Tryd.underlying65 rfl (slice_len h0) (L_mk (R:=(OR.frz rTerm)) (z0:=({ coef:=0,lit:=0 } : Term)) (zc:=[I 0,I 0]) rfl et_71 (by kernel_rfl) (fun _ _=>⟨rfl,rTerm_iff.2 rfl⟩) rfl rfl hx1 Z (fun v5 w6 Z=>aV v5 rfl (nq (sq (aI rfl (nn ?_))))))))
 have hlen10 : List.length a≤9223372036854775807:=len_le (slice_len h0)
 obtain ⟨j10,hL10,hF⟩:=bind_some hF
 obtain ⟨R10,hR10⟩:=exR fun f w_=>∃ out_9 : List Term,j10 = .nx out_9∧f 3 = v5∧Star H w_ ([oF 126 rTerm v5 out_9])
 refine W_join R10 ?_ ?_
 refine W_block ?_
 obtain ⟨I10,hI10⟩:=exI fun n f w_=>∃ i_8 : Nat,∃ suf10 : List Term,∃ out_9 : List Term,n = suf10.length∧List.drop i_8 a = suf10∧i_8 + suf10.length = a.length∧rangeL l_toTermS_b1 suf10 i_8 out_9 = some j10∧f 0 = v0∧f 3 = v5∧f 4 = I i_8∧Star H w_ ([oF 126 rTerm v5 out_9])
 refine W_loop I10 (n:=a.length) ?_ ?_
 exact ij hI10 ⟨0,a,x1,rfl,rfl,Nat.zero_add _,hL10,rfl,rfl,rfl,Z⟩
 intro n10 f w_ hI
 obtain ⟨i_8,suf10,out_9,rfl,hd10,hl10,hL10,sf0,sf3,sf4,Z⟩:=ik hI10 hI
 refine W_seq (sq (mF sf4 rfl (mF sf0 rfl (L_len rfl Tryd.underlying65 rfl (slice_len h0) (L_lss rfl rfl rfl (nn (W_cond (b:=decide ((i_8 : Int) < (a.length : Int))) rfl (fun hc11=>?_) (fun hc11=>?_))))))))
 have hlt10:=of_decide_eq_true hc11
 rcases suf10 with _ | ⟨x_10,rest10⟩
 exact absurd hlt10 (by simp at hl10; omega)
 obtain ⟨o10,hB10,hL10⟩:=range_cons hL10
 rw [l_toTermS_b1] at hB10
 have hix10:=drop_idx hd10
 refine W_skip (W_seq (W_block ?_))
 obtain ⟨x21,hx21,hB10⟩:=bind_some hB10
 obtain ⟨x23,hx23,hB10⟩:=bind_some hB10
 refine W_region (mF sf3 rfl (mF sf4 rfl (mF sf0 rfl (mF sf4 rfl (L_ix (r:=rTerm) rfl Tryd.underlying65 Tryd.sizeOf134 rfl h0 rfl hix10 (fun g27 o28 cs_g27 hrk_hat29 hat29=>?_))))))
 obtain rfl:=rTerm_iff.1 hrk_hat29
 refine L_lda (cs:=[I x_10.coef,I x_10.lit]) rfl Tryd.isAgg134 Tryd.sizeOf134 rfl (At.sub (AtH.at hat29 Z.sub) 0 2) rfl ?_
 obtain ⟨H31b,l32,s33,z34,k35⟩:=Z.borrow
 refine L_call rfl Tryd.call107 (ops1 rfl) (l_toTerm_c (a:=x_10) s33 hx21) ?_
 rintro _ w36 ⟨rfl,Z⟩
 have Z:=k35 Z c0
 obtain ⟨g37,cap_g37,hv38,_,_⟩:=Star.row 0 Z rfl hx23
 refine L_ixO (R:=(OR.frz rTerm)) (tb:=0) 0 rfl Tryd.underlying71 Tryd.sizeOf126 rfl hv38 (by first | rfl | simp) rfl hx23 ?_
 have Z:=Star.addF (r:=rTerm) (cs:=[I x21.coef,I x21.lit]) (x:=x21) Z (rTerm_iff.2 rfl)
 refine L_stE (vs:=#[I x21.coef,I x21.lit]) rfl Tryd.sizeOf126 rfl rfl rfl hv38 Z hx23 (fun w39 Z=>nn (W_region (mF sf4 rfl (L_add rfl rfl rfl (aI rfl (nn ?_))))))
 obtain rfl:=so hB10
 show ∃ m,m < _∧I10 m _ _
 refine ⟨rest10.length,by simp,?_⟩
 exact ij hI10 ⟨i_8 + 1,rest10,(out_9.set (Int.toNat (i_8 : Int)) x21),rfl,drop_next hd10,by simp at hl10; omega,hL10,sf0,sf3,(Eq.trans rfl (congrArg (Value.int .i64) (i64_succ (n:=a.length) (by simp at hl10; omega) hlen10))),Z⟩
 rcases suf10 with _ | ⟨_,_⟩
 obtain rfl:=range_nil hL10
 refine W_exit (rj hR10 ⟨out_9,rfl,sf3,Z⟩)
 exact absurd (of_decide_eq_false hc11) (by simp at hl10; omega)
 intro f w_ hR
 obtain ⟨out_9,rfl,sf3,Z⟩:=rk hR10 hR
 refine sq (mF sf3 rfl (aV v5 rfl (nn (W_ret (retG1 (v1:=v5) Tryd.results98 rfl ?_)))))
 obtain rfl:=so hF
 exact ⟨v5,rfl,Z⟩
theorem l_toConstraint_c {a : Con} {v0_0 : Value} {H : FH} {w : World} (Z : Star H w []) (h0_0 : (rS 134 rTerm).rel H [v0_0] a.terms) {r : Con} (hF : l_toConstraint a = some r) :
 C Tryd.prog 70 #[.agg #[v0_0,I a.bound]] w fun v w'=>∃ (u1 : Value),v = .agg #[u1,I r.bound]∧Star H w' [oF 126 rTerm u1 r.terms]:=by
 unfold l_toConstraint at hF
 refine C_enter Tryd.func70 rfl Tryd.ntmps70 rfl (sq (L_box (v:=.agg #[v0_0,I a.bound]) (cs:=#[v0_0,I a.bound]) rfl rfl rfl Z (fun g5 w6 Z=>L_al (cs:=#[S0,I 0]) rfl Tryd.zeroValue73 rfl Z (fun g7 w8 Z=>ns (L_al (cs:=#[S0,I 0]) rfl Tryd.zeroValue73 rfl Z (fun g11 w12 Z=>nq ?_))))))
 obtain ⟨x18,hx18,hF⟩:=bind_some hF
 refine W_region (fA 0 fa_67_0 rfl rfl (ldB 2 Z Tryd.isAgg65 rfl rfl rfl ?_))
 obtain ⟨H22b,l23,s24,z25,k26⟩:=Z.borrow
 refine L_call rfl Tryd.call98 (ops1 rfl) (l_toTermS_c (a:=a.terms) s24 (RP.mono _ h0_0 l23) hx18) ?_
 rintro r27_0 w27 ⟨_,rfl,Z⟩
 have Z:=k26 Z (co closed_term c0)
 refine fA 0 fa_73_0 rfl rfl (L_stB (v:=r27_0) (cs2:=#[r27_0,I 0]) 1 rfl Tryd.sizeOf71 rfl rfl (one_len (Star.len 0 Z rfl)) Z rfl rfl rfl (fun w29 Z=>ns (fA 1 fa_67_1 rfl rfl (ldB 3 Z Tryd.isAgg3 rfl rfl rfl (fA 1 fa_73_1 rfl rfl (L_stB (v:=I a.bound) (cs2:=#[r27_0,I a.bound]) 0 rfl Tryd.sizeOf3 rfl rfl rfl Z rfl rfl rfl (fun w31 Z=>ns (L_lda (cs:=[r27_0,I a.bound]) rfl Tryd.isAgg73 Tryd.sizeOf73 rfl (At.sub0 (Blk.at (Star.blkAt 0 Z rfl)) 0 2) rfl (L_staB (vs:=#[r27_0,I a.bound]) (cs2:=#[r27_0,I a.bound]) 2 rfl Tryd.sizeOf73 rfl rfl rfl (ones_cons (one_len (Star.len 1 Z rfl)) (ones_cons rfl ones_nil)) Z rfl (by show 0 + 2≤2; decide) rfl (fun w33 Z=>nn (W_ret (retG1 (v1:=.agg #[r27_0,I a.bound]) Tryd.results70 (resV_agg Tryd.isAgg73 Tryd.sizeOf73 rfl (Star.blkAt 0 Z rfl) rfl) ?_))))))))))))
 obtain rfl:=so hF
 have Z:=Z.get 2 rfl
 exact ⟨r27_0,rfl,(Star.keepN 1 Z)⟩
theorem l_toStep_c {a : Step} {v0_3 : Value} {H : FH} {w : World} (Z : Star H w []) (h0_3 : (rS 134 rTerm).rel H [v0_3] a.given.terms) {r : Step} (hF : l_toStep a = some r) :
 C Tryd.prog 41 #[.agg #[I a.kind,I a.a,I a.b,v0_3,I a.given.bound]] w fun v w'=>∃ (u1 : Value),v = .agg #[I r.kind,I r.a,I r.b,u1,I r.given.bound]∧Star H w' [oF 126 rTerm u1 r.given.terms]:=by
 unfold l_toStep at hF
 refine C_enter Tryd.func41 rfl Tryd.ntmps41 rfl (sq (L_box (v:=.agg #[I a.kind,I a.a,I a.b,v0_3,I a.given.bound]) (cs:=#[I a.kind,I a.a,I a.b,v0_3,I a.given.bound]) rfl rfl rfl Z (fun g5 w6 Z=>L_al (cs:=#[I 0,I 0,I 0,S0,I 0]) rfl Tryd.zeroValue75 rfl Z (fun g7 w8 Z=>ns (L_al (cs:=#[I 0,I 0,I 0,S0,I 0]) rfl Tryd.zeroValue75 rfl Z (fun g11 w12 Z=>ns (fA 0 fa_69_0 rfl rfl (ldB 2 Z Tryd.isAgg3 rfl rfl rfl (fA 0 fa_75_0 rfl rfl (L_stB (v:=I a.kind) (cs2:=#[I a.kind,I 0,I 0,S0,I 0]) 0 rfl Tryd.sizeOf3 rfl rfl rfl Z rfl rfl rfl (fun w14 Z=>ns (fA 1 fa_69_1 rfl rfl (ldB 2 Z Tryd.isAgg3 rfl rfl rfl (fA 1 fa_75_1 rfl rfl (L_stB (v:=I a.a) (cs2:=#[I a.kind,I a.a,I 0,S0,I 0]) 0 rfl Tryd.sizeOf3 rfl rfl rfl Z rfl rfl rfl (fun w16 Z=>ns (fA 2 fa_69_2 rfl rfl (ldB 2 Z Tryd.isAgg3 rfl rfl rfl (fA 2 fa_75_2 rfl rfl (L_stB (v:=I a.b) (cs2:=#[I a.kind,I a.a,I a.b,S0,I 0]) 0 rfl Tryd.sizeOf3 rfl rfl rfl Z rfl rfl rfl (fun w18 Z=>nq ?_)))))))))))))))))))))
 obtain ⟨x24,hx24,hF⟩:=bind_some hF
 refine W_region (fA 3 fa_69_3 rfl rfl (L_lda (cs:=[v0_3,I a.given.bound]) rfl Tryd.isAgg67 Tryd.sizeOf67 rfl (At.sub0 (Blk.at (Star.blkAt 2 Z rfl)) 3 2) rfl ?_))
 obtain ⟨H28b,l29,s30,z31,k32⟩:=Z.borrow
 refine L_call rfl Tryd.call70 (ops1 rfl) (l_toConstraint_c (a:=a.given) s30 (RP.mono _ h0_3 l29) hx24) ?_
 rintro _ w33 ⟨r33_0,rfl,Z⟩
 have Z:=k32 Z (co closed_term c0)
 refine fA 3 fa_75_3 rfl rfl (L_staB (vs:=#[r33_0,I x24.bound]) (cs2:=#[I a.kind,I a.a,I a.b,r33_0,I x24.bound]) 1 rfl Tryd.sizeOf73 rfl rfl rfl (ones_cons (one_len (Star.len 0 Z rfl)) (ones_cons rfl ones_nil)) Z rfl (by show 3 + 2≤5; decide) rfl (fun w35 Z=>ns (L_lda (cs:=[I a.kind,I a.a,I a.b,r33_0,I x24.bound]) rfl Tryd.isAgg75 Tryd.sizeOf75 rfl (At.sub0 (Blk.at (Star.blkAt 0 Z rfl)) 0 5) rfl (L_staB (vs:=#[I a.kind,I a.a,I a.b,r33_0,I x24.bound]) (cs2:=#[I a.kind,I a.a,I a.b,r33_0,I x24.bound]) 2 rfl Tryd.sizeOf75 rfl rfl rfl (ones_cons rfl (ones_cons rfl (ones_cons rfl (ones_cons (one_len (Star.len 1 Z rfl)) (ones_cons rfl ones_nil))))) Z rfl (by show 0 + 5≤5; decide) rfl (fun w37 Z=>nn (W_ret (retG1 (v1:=.agg #[I a.kind,I a.a,I a.b,r33_0,I x24.bound]) Tryd.results41 (resV_agg Tryd.isAgg75 Tryd.sizeOf75 rfl (Star.blkAt 0 Z rfl) rfl) ?_)))))))
 obtain rfl:=so hF
 have Z:=Z.get 2 rfl
 exact ⟨r33_0,rfl,(Star.keepN 1 Z)⟩
theorem l_toStepS_c {a : List Step} {v0 : Value} {H : FH} {w : World} (Z : Star H w []) (h0 : (rS 69 (rStep 134)).rel H [v0] a) {r : List Step} (hF : l_toStepS a = some r) :
 C Tryd.prog 16 #[v0] w fun v w'=>∃ (u1 : Value),v = u1∧Star H w' [oS 75 (oStep 126) u1 r]:=by
 unfold l_toStepS at hF
 refine C_enter Tryd.func16 rfl Tryd.ntmps16 rfl (sq (aV S0 rfl (nq ?_)))
 obtain ⟨x1,hx1,hF⟩:=bind_some hF
 refine W_region (mV v0 rfl (L_len rfl Tryd.underlying38 rfl (slice_len h0) (L_mk (R:=(oStep 126)) (z0:=({ kind:=0,a:=0,b:=0,given:=({ terms:=[],bound:=0 } : Con) } : Step)) (zc:=[I 0,I 0,I 0,S0,I 0]) rfl et_41 (by kernel_rfl) (fun _ _=>oStep_zero) rfl rfl hx1 Z (fun v5 w6 Z=>aV v5 rfl (nq (sq (aI rfl (nn ?_))))))))
 have hlen10 : List.length a≤9223372036854775807:=len_le (slice_len h0)
 obtain ⟨j10,hL10,hF⟩:=bind_some hF
 obtain ⟨R10,hR10⟩:=exR fun f w_=>∃ out_9 : List Step,j10 = .nx out_9∧f 3 = v5∧Star H w_ ([oS 75 (oStep 126) v5 out_9])
 refine W_join R10 ?_ ?_
 refine W_block ?_
 obtain ⟨I10,hI10⟩:=exI fun n f w_=>∃ i_8 : Nat,∃ suf10 : List Step,∃ out_9 : List Step,n = suf10.length∧List.drop i_8 a = suf10∧i_8 + suf10.length = a.length∧rangeL l_toStepS_b1 suf10 i_8 out_9 = some j10∧f 0 = v0∧f 3 = v5∧f 4 = I i_8∧Star H w_ ([oS 75 (oStep 126) v5 out_9])
 refine W_loop I10 (n:=a.length) ?_ ?_
 exact ij hI10 ⟨0,a,x1,rfl,rfl,Nat.zero_add _,hL10,rfl,rfl,rfl,Z⟩
 intro n10 f w_ hI
 obtain ⟨i_8,suf10,out_9,rfl,hd10,hl10,hL10,sf0,sf3,sf4,Z⟩:=ik hI10 hI
 refine W_seq (sq (mF sf4 rfl (mF sf0 rfl (L_len rfl Tryd.underlying38 rfl (slice_len h0) (L_lss rfl rfl rfl (nn (W_cond (b:=decide ((i_8 : Int) < (a.length : Int))) rfl (fun hc11=>?_) (fun hc11=>?_))))))))
 have hlt10:=of_decide_eq_true hc11
 rcases suf10 with _ | ⟨x_10,rest10⟩
 exact absurd hlt10 (by simp at hl10; omega)
 obtain ⟨o10,hB10,hL10⟩:=range_cons hL10
 rw [l_toStepS_b1] at hB10
 have hix10:=drop_idx hd10
 refine W_skip (W_seq (W_block ?_))
 obtain ⟨x21,hx21,hB10⟩:=bind_some hB10
 obtain ⟨x24,hx24,hB10⟩:=bind_some hB10
 refine W_region (mF sf3 rfl (mF sf4 rfl (mF sf0 rfl (mF sf4 rfl (L_ix (r:=(rStep 134)) rfl Tryd.underlying38 Tryd.sizeOf69 rfl h0 rfl hix10 (fun g28 o29 cs_g28 hrk_hat30 hat30=>?_))))))
 obtain ⟨u31_0,rfl,hu31_0⟩:=rStep_iff.1 hrk_hat30
 refine L_lda (cs:=[I x_10.kind,I x_10.a,I x_10.b,u31_0,I x_10.given.bound]) rfl Tryd.isAgg69 Tryd.sizeOf69 rfl (At.sub (AtH.at hat30 Z.sub) 0 5) rfl ?_
 obtain ⟨H32b,l33,s34,z35,k36⟩:=Z.borrow
 refine L_call rfl Tryd.call41 (ops1 rfl) (l_toStep_c (a:=x_10) s34 (RP.mono _ hu31_0 l33) hx21) ?_
 rintro _ w37 ⟨r37_0,rfl,Z⟩
 have Z:=k36 Z (co closed_term c0)
 obtain ⟨g39,cap_g39,hv40,_,_⟩:=Star.row 1 Z rfl hx24
 refine L_ixO (R:=(oStep 126)) (tb:=0) 0 rfl Tryd.underlying41 Tryd.sizeOf75 rfl hv40 (by first | rfl | simp) rfl hx24 ?_
 have Z:=oStep_close (s:=x21) Z
 refine L_stE (vs:=#[I x21.kind,I x21.a,I x21.b,r37_0,I x21.given.bound]) rfl Tryd.sizeOf75 rfl rfl rfl hv40 Z hx24 (fun w41 Z=>nn (W_region (mF sf4 rfl (L_add rfl rfl rfl (aI rfl (nn ?_))))))
 obtain rfl:=so hB10
 show ∃ m,m < _∧I10 m _ _
 refine ⟨rest10.length,by simp,?_⟩
 exact ij hI10 ⟨i_8 + 1,rest10,(out_9.set (Int.toNat (i_8 : Int)) x21),rfl,drop_next hd10,by simp at hl10; omega,hL10,sf0,sf3,(Eq.trans rfl (congrArg (Value.int .i64) (i64_succ (n:=a.length) (by simp at hl10; omega) hlen10))),Z⟩
 rcases suf10 with _ | ⟨_,_⟩
 obtain rfl:=range_nil hL10
 refine W_exit (rj hR10 ⟨out_9,rfl,sf3,Z⟩)
 exact absurd (of_decide_eq_false hc11) (by simp at hl10; omega)
 intro f w_ hR
 obtain ⟨out_9,rfl,sf3,Z⟩:=rk hR10 hR
 refine sq (mF sf3 rfl (aV v5 rfl (nn (W_ret (retG1 (v1:=v5) Tryd.results16 rfl ?_)))))
 obtain rfl:=so hF
 exact ⟨v5,rfl,Z⟩
theorem i_refers_c {kind : Int} {H : FH} {w : World} (Z : Star H w []) {r : Int × Bool} (hF : i_refers kind = some r) :
 C Tryd.prog 76 #[I kind] w fun v w'=>v = .tuple #[I r.1,Bo r.2]∧Star H w' []:=by
 unfold i_refers at hF
 refine C_enter Tryd.func76 rfl Tryd.ntmps76 rfl (sq (aI rfl (aB rfl (nq (sq (mI rfl (nn (W_block (sq (L_eql rfl rfl rfl (aB rfl (nn (W_cond (b:=(kind == 1)) rfl (fun hc1=>?_) (fun hc1=>?_))))))))))))))
 have hF:=(ite_t hc1).symm.trans hF
 refine sq (aI rfl (aB rfl (nn (W_ret (retG2 (v1:=I 2) (v2:=Bo false) Tryd.results76 rfl rfl ?_)))))
 obtain rfl:=so hF
 exact ⟨rfl,Z⟩
 have hF:=(ite_f hc1).symm.trans hF
 refine W_seq (sq (L_eql rfl rfl rfl (aB rfl (nn ?_))))
 obtain ⟨t7_2,hA3,hF⟩:=bind_some hF
 obtain ⟨R3,hR3⟩:=exR fun f w_=>f 4 = I kind∧f 7 = Bo t7_2∧Star H w_ ([])
 refine W_join R3 ?_ ?_
 refine W_cond (b:=(kind == 2)) rfl (fun hc4=>?_) (fun hc4=>?_)
 have hA3:=(ite_t hc4).symm.trans hA3
 refine W_skip ?_
 obtain rfl:=so hA3
 exact rj hR3 ⟨rfl,rfl,Z⟩
 have hA3:=(ite_f hc4).symm.trans hA3
 refine sq (L_eql rfl rfl rfl (aB rfl (nn ?_)))
 obtain ⟨t7_5,hA6,hA3⟩:=bind_some hA3
 obtain ⟨R6,hR6⟩:=exR fun f w_=>f 4 = I kind∧f 7 = Bo t7_5∧Star H w_ ([])
 refine W_join R6 ?_ ?_
 refine W_cond (b:=(kind == 3)) rfl (fun hc7=>?_) (fun hc7=>?_)
 have hA6:=(ite_t hc7).symm.trans hA6
 refine W_skip ?_
 obtain rfl:=so hA6
 exact rj hR6 ⟨rfl,rfl,Z⟩
 have hA6:=(ite_f hc7).symm.trans hA6
 refine W_region (L_eql rfl rfl rfl (aB rfl (nn ?_)))
 obtain rfl:=so hA6
 exact rj hR6 ⟨rfl,rfl,Z⟩
 intro f w_ hR
 obtain ⟨sf4,sf7,Z⟩:=rk hR6 hR
 obtain rfl:=so hA3
 exact rj hR3 ⟨sf4,sf7,Z⟩
 intro f w_ hR
 obtain ⟨sf4,sf7,Z⟩:=rk hR3 hR
 refine W_cond (b:=t7_2) sf7 (fun hc8=>?_) (fun hc8=>?_)
 have hF:=(ite_t hc8).symm.trans hF
 refine sq (aI rfl (aB rfl (nn (W_ret (retG2 (v1:=I 1) (v2:=Bo true) Tryd.results76 rfl rfl ?_)))))
 obtain rfl:=so hF
 exact ⟨rfl,Z⟩
 have hF:=(ite_f hc8).symm.trans hF
 refine W_seq (sq (L_eql rfl sf4 rfl (aB rfl (nn ?_))))
 obtain ⟨t11_9,hA10,hF⟩:=bind_some hF
 obtain ⟨R10,hR10⟩:=exR fun f w_=>f 4 = I kind∧f 11 = Bo t11_9∧Star H w_ ([])
 refine W_join R10 ?_ ?_
 refine W_cond (b:=(kind == 4)) rfl (fun hc11=>?_) (fun hc11=>?_)
 have hA10:=(ite_t hc11).symm.trans hA10
 refine W_skip ?_
 obtain rfl:=so hA10
 exact rj hR10 ⟨sf4,rfl,Z⟩
 have hA10:=(ite_f hc11).symm.trans hA10
 refine W_region (L_eql rfl sf4 rfl (aB rfl (nn ?_)))
 obtain rfl:=so hA10
 exact rj hR10 ⟨sf4,rfl,Z⟩
 intro f w_ hR
 obtain ⟨sf4,sf11,Z⟩:=rk hR10 hR
 refine W_cond (b:=t11_9) sf11 (fun hc12=>?_) (fun hc12=>?_)
 have hF:=(ite_t hc12).symm.trans hF
 refine sq (aI rfl (aB rfl (nn (W_ret (retG2 (v1:=I 1) (v2:=Bo false) Tryd.results76 rfl rfl ?_)))))
 obtain rfl:=so hF
 exact ⟨rfl,Z⟩
 have hF:=(ite_f hc12).symm.trans hF
 refine W_seq (sq (L_eql rfl sf4 rfl (aB rfl (nn ?_))))
 obtain ⟨t14_13,hA14,hF⟩:=bind_some hF
 obtain ⟨R14,hR14⟩:=exR fun f w_=>f 14 = Bo t14_13∧Star H w_ ([])
 refine W_join R14 ?_ ?_
 refine W_cond (b:=(kind == 6)) rfl (fun hc15=>?_) (fun hc15=>?_)
 have hA14:=(ite_t hc15).symm.trans hA14
 refine W_skip ?_
 obtain rfl:=so hA14
 exact rj hR14 ⟨rfl,Z⟩
 have hA14:=(ite_f hc15).symm.trans hA14
 refine W_region (L_eql rfl sf4 rfl (aB rfl (nn ?_)))
 obtain rfl:=so hA14
 exact rj hR14 ⟨rfl,Z⟩
 intro f w_ hR
 obtain ⟨sf14,Z⟩:=rk hR14 hR
 refine W_cond (b:=t14_13) sf14 (fun hc16=>?_) (fun hc16=>?_)
 have hF:=(ite_t hc16).symm.trans hF
 refine sq (aI rfl (aB rfl (nn (W_ret (retG2 (v1:=I 0) (v2:=Bo false) Tryd.results76 rfl rfl ?_)))))
 obtain rfl:=so hF
 exact ⟨rfl,Z⟩
 have hF:=(ite_f hc16).symm.trans hF
 refine W_skip (sq (aI rfl (aB rfl (nn (W_ret (retG2 (v1:=I (-1)) (v2:=Bo false) Tryd.results76 rfl rfl ?_))))))
 obtain rfl:=so hF
 exact ⟨rfl,Z⟩
theorem slices_Equal_implTerm_c {s1 : List Term} {s2 : List Term} {v0 : Value} {v1 : Value} {H : FH} {w : World} (Z : Star H w []) (h0 : (rS 126 rTerm).rel H [v0] s1) (h1 : (rS 126 rTerm).rel H [v1] s2) {r : Bool} (hF : slices_Equal_implTerm s1 s2 = some r) :
 C Tryd.prog 108 #[v0,v1] w fun v w'=>v = Bo r∧Star H w' []:=by
 unfold slices_Equal_implTerm at hF
 refine C_enter Tryd.func108 rfl Tryd.ntmps108 rfl (sq (aB rfl (nq (sq (mV v0 rfl (L_len rfl Tryd.underlying71 rfl (slice_len h0) (mV v1 rfl (L_len rfl Tryd.underlying71 rfl (slice_len h1) (L_neq rfl rfl rfl (nn (W_cond (b:=((s1.length : Int) != (s2.length : Int))) rfl (fun hc1=>?_) (fun hc1=>?_))))))))))))
 have hF:=(ite_t hc1).symm.trans hF
 refine sq (aB rfl (nn (W_ret (retG1 (v1:=Bo false) Tryd.results108 rfl ?_))))
 obtain rfl:=so hF
 exact ⟨rfl,Z⟩
 have hF:=(ite_f hc1).symm.trans hF
 refine W_skip (W_seq (sq (mV v0 rfl (L_len rfl Tryd.underlying71 rfl (slice_len h0) (mI rfl (nn ?_))))))
 have hlen5 : List.length s1≤9223372036854775807:=len_le (slice_len h0)
 obtain ⟨j5,hL5,hF⟩:=bind_some hF
 obtain ⟨R5,hR5⟩:=exR fun f w_=>∃ H3 : FH,j5 = .nx ()∧Le H H3∧Star H3 w_ ([])
 refine W_join R5 ?_ ?_
 refine W_block ?_
 obtain ⟨I5,hI5⟩:=exI fun n f w_=>∃ i_2 : Nat,∃ suf5 : List Term,∃ H3 : FH,n = suf5.length∧List.drop i_2 s1 = suf5∧i_2 + suf5.length = s1.length∧rangeL (slices_Equal_implTerm_b1 s2) suf5 i_2 () = some j5∧Le H H3∧f 0 = v0∧f 1 = v1∧f 12 = I (s1.length : Int)∧f 13 = I i_2∧Star H3 w_ ([])
 refine W_loop I5 (n:=s1.length) ?_ ?_
 exact ij hI5 ⟨0,s1,H,rfl,rfl,Nat.zero_add _,hL5,(Le.refl _),rfl,rfl,rfl,rfl,Z⟩
 intro n5 f w_ hI
 obtain ⟨i_2,suf5,H3,rfl,hd5,hl5,hL5,l4,sf0,sf1,sf12,sf13,Z⟩:=ik hI5 hI
 refine sq (L_lss rfl sf13 sf12 (nq (W_cond (b:=decide ((i_2 : Int) < (s1.length : Int))) rfl (fun hc6=>?_) (fun hc6=>?_))))
 have hlt5:=of_decide_eq_true hc6
 rcases suf5 with _ | ⟨x_5,rest5⟩
 exact absurd hlt5 (by simp at hl5; omega)
 obtain ⟨o5,hB5,hL5⟩:=range_cons hL5
 rw [slices_Equal_implTerm_b1] at hB5
 have hix5:=drop_idx hd5
 refine W_skip (W_seq (W_block (sq (mF sf13 rfl (aI rfl (nq ?_))))))
 obtain ⟨x11,hx11,hB5⟩:=bind_some hB5
 refine W_drawS 8 [isV (v0),isV (I i_2),isEl rTerm x_5 0,isV (.agg #[I x_5.coef,I x_5.lit]),isV (v1),isV (I i_2),isEl rTerm x11 0,isV (.agg #[I x11.coef,I x11.lit])] [] [] ([]) [([],[]),([],[]),([],[]),([],[]),([],[]),([],[]),([],[]),([],[])] (S:=[]) Tryd_mix (by kernel_rfl) rfl (by kernel_rfl) (amF_cons (mono_V _) (amF_cons (mono_V _) (amF_cons (mono_el _ _ _) (amF_cons (mono_V _) (amF_cons (mono_V _) (amF_cons (mono_V _) (amF_cons (mono_el _ _ _) (amF_cons (mono_V _) amF_nil)))))))) Z ?_ (fun f w_ H16 hS16 hE16 hT16 Z=>?_)
 refine opsS_cons (fun f w_ _ _ s _ _ Z=>mF ((s 0 rfl).trans sf0) rfl (nO rfl rfl Z)) (opsS_cons (fun f w_ _ _ s _ _ Z=>mF ((s 5 rfl).trans rfl) rfl (nO rfl rfl Z)) (opsS_cons ?_ ?_))
 intro f w_ H16 X16 hS16 hE16 hP16 Z
 refine L_ix (r:=rTerm) rfl Tryd.underlying71 Tryd.sizeOf126 (hP16 0 16 rfl rfl) (RP.mono _ h0 (Le.trans l4 hE16)) (hP16 1 17 rfl rfl) hix5 (fun g25 o26 cs_g25 hrk_hat27 hat27=>?_)
 obtain rfl:=rTerm_iff.1 hrk_hat27
 exact L_nil ⟨rfl,_,_,rfl,Le.refl _,fun _ _=>⟨_,_,_,rfl,hrk_hat27,hat27⟩,Z⟩
 refine opsS_cons ?_ ?_
 intro f w_ H16 X16 hS16 hE16 hP16 Z
 obtain ⟨g29,o29,cs29,hv29,hrk_hat29,hat29⟩:=(hP16 2 18 rfl rfl)
 obtain rfl:=rTerm_iff.1 hrk_hat29
 refine L_lda (cs:=[I x_5.coef,I x_5.lit]) rfl Tryd.isAgg126 Tryd.sizeOf126 hv29 (At.sub (AtH.at hat29 Z.sub) 0 2) rfl (L_nil ⟨rfl,_,_,rfl,Le.refl _,fun _ _=>rfl,Z⟩)
 refine opsS_cons (fun f w_ _ _ s _ _ Z=>mF ((s 1 rfl).trans sf1) rfl (nO rfl rfl Z)) (opsS_cons (fun f w_ _ _ s _ _ Z=>mF ((s 5 rfl).trans rfl) rfl (nO rfl rfl Z)) (opsS_cons ?_ ?_))
 intro f w_ H16 X16 hS16 hE16 hP16 Z
 refine L_ix (r:=rTerm) rfl Tryd.underlying71 Tryd.sizeOf126 (hP16 4 20 rfl rfl) (RP.mono _ h1 (Le.trans l4 hE16)) (hP16 5 21 rfl rfl) hx11 (fun g31 o32 cs_g31 hrk_hat33 hat33=>?_)
 obtain rfl:=rTerm_iff.1 hrk_hat33
 exact L_nil ⟨rfl,_,_,rfl,Le.refl _,fun _ _=>⟨_,_,_,rfl,hrk_hat33,hat33⟩,Z⟩
 refine opsS_cons ?_ ?_
 intro f w_ H16 X16 hS16 hE16 hP16 Z
 obtain ⟨g35,o35,cs35,hv35,hrk_hat35,hat35⟩:=(hP16 6 22 rfl rfl)
 obtain rfl:=rTerm_iff.1 hrk_hat35
 refine L_lda (cs:=[I x11.coef,I x11.lit]) rfl Tryd.isAgg126 Tryd.sizeOf126 hv35 (At.sub (AtH.at hat35 Z.sub) 0 2) rfl (L_nil ⟨rfl,_,_,rfl,Le.refl _,fun _ _=>rfl,Z⟩)
 exact opsS_nil
 refine L_tneq (x1:=x_5.coef) (x2:=x_5.lit) (y1:=x11.coef) (y2:=x11.lit) rfl termEq_126 (hT16 3 19 rfl rfl) (hT16 7 23 rfl rfl) (nn (W_cond (b:=(!(x_5 == x11))) rfl (fun hc37=>?_) (fun hc37=>?_)))
 have hB5:=(ite_t hc37).symm.trans hB5
 refine sq (aB rfl (nn (W_ret (retG1 (v1:=Bo false) Tryd.results108 rfl ?_))))
 obtain rfl:=so hB5
 obtain rfl:=so hL5
 obtain rfl:=so hF
 exact ⟨rfl,(Star.down Z (Le.trans l4 hE16) c0)⟩
 have hB5:=(ite_f hc37).symm.trans hB5
 refine W_skip (W_region (L_add rfl ((hS16 13 rfl).trans sf13) rfl (mI rfl (nn ?_))))
 obtain rfl:=so hB5
 show ∃ m,m < _∧I5 m _ _
 refine ⟨rest5.length,by simp,?_⟩
 exact ij hI5 ⟨i_2 + 1,rest5,H16,rfl,drop_next hd5,by simp at hl5; omega,hL5,(Le.trans l4 hE16),((hS16 0 rfl).trans sf0),((hS16 1 rfl).trans sf1),((hS16 12 rfl).trans sf12),(Eq.trans rfl (congrArg (Value.int .i64) (i64_succ (n:=s1.length) (by simp at hl5; omega) hlen5))),Z⟩
 rcases suf5 with _ | ⟨_,_⟩
 obtain rfl:=range_nil hL5
 refine W_exit (rj hR5 ⟨H3,rfl,l4,Z⟩)
 exact absurd (of_decide_eq_false hc6) (by simp at hl5; omega)
 intro f w_ hR
 obtain ⟨H3,rfl,l4,Z⟩:=rk hR5 hR
 refine sq (aB rfl (nn (W_ret (retG1 (v1:=Bo true) Tryd.results108 rfl ?_))))
 obtain rfl:=so hF
 exact ⟨rfl,(Star.down Z l4 c0)⟩
theorem i_ConstraintSame_c {a : Con} {b : Con} {v0_0 : Value} {v1_0 : Value} {H : FH} {w : World} (Z : Star H w []) (h0_0 : (rS 126 rTerm).rel H [v0_0] a.terms) (h1_0 : (rS 126 rTerm).rel H [v1_0] b.terms) {r : Bool} (hF : i_ConstraintSame a b = some r) :
 C Tryd.prog 99 #[.agg #[v0_0,I a.bound],.agg #[v1_0,I b.bound]] w fun v w'=>v = Bo r∧Star H w' []:=by
 unfold i_ConstraintSame at hF
 refine C_enter Tryd.func99 rfl Tryd.ntmps99 rfl (sq (L_box (v:=.agg #[v0_0,I a.bound]) (cs:=#[v0_0,I a.bound]) rfl rfl rfl Z (fun g5 w6 Z=>L_box (v:=.agg #[v1_0,I b.bound]) (cs:=#[v1_0,I b.bound]) rfl rfl rfl Z (fun g7 w8 Z=>aB rfl (nq ?_)))))
 obtain ⟨b16,hb16,hF⟩:=bind_some hF
 obtain ⟨R17,hR17⟩:=exR fun f w_=>f 4 = Bo b16∧Star H w_ ([])
 refine W_join R17 ?_ ?_
 refine W_region (fA 1 fa_73_1 rfl rfl (ldB 1 Z Tryd.isAgg3 rfl rfl rfl (fA 1 fa_73_1 rfl rfl (ldB 0 Z Tryd.isAgg3 rfl rfl rfl (L_eql rfl rfl rfl (mB rfl (L_split (d:=10) (b:=(a.bound == b.bound)) rfl (fun hc18=>?_) (fun hc18=>?_))))))))
 rw [ite_t hc18] at hb16
 obtain ⟨x14,hx14,hb16⟩:=bind_some hb16
 refine fA 0 fa_73_0 rfl rfl (ldB 1 Z Tryd.isAgg71 rfl rfl rfl (fA 0 fa_73_0 rfl rfl (ldB 0 Z Tryd.isAgg71 rfl rfl rfl ?_)))
 obtain ⟨H19b,l20,s21,z22,k23⟩:=Z.borrow
 refine L_call rfl Tryd.call108 (ops2 rfl rfl) (slices_Equal_implTerm_c (s1:=a.terms) (s2:=b.terms) s21 (RP.mono _ h0_0 l20) (RP.mono _ h1_0 l20) hx14) ?_
 rintro _ w24 ⟨rfl,Z⟩
 have Z:=k23 Z c0
 refine L_pick (v:=Bo b16) rfl rfl (congrArg Value.bool (so hb16)) (aB rfl (nn (rj hR17 ⟨rfl,(Star.keepN 0 Z)⟩)))
 rw [ite_f hc18] at hb16
 refine ps rfl (ps rfl (ps rfl (ps rfl (ps rfl (L_pick (v:=Bo b16) rfl rfl (congrArg Value.bool (so hb16)) (aB rfl (nn (rj hR17 ⟨rfl,(Star.keepN 0 Z)⟩))))))))
 intro f w_ hR
 obtain ⟨sf4,Z⟩:=rk hR17 hR
 refine W_ret (retG1 (v1:=Bo b16) Tryd.results99 sf4 ?_)
 obtain rfl:=so hF
 exact ⟨rfl,Z⟩
theorem i_Step_shaped_c {s : Step} {v0_3 : Value} {H : FH} {w : World} (Z : Star H w []) (h0_3 : (rS 126 rTerm).rel H [v0_3] s.given.terms) {r : Bool} (hF : i_Step_shaped s = some r) :
 C Tryd.prog 71 #[.agg #[I s.kind,I s.a,I s.b,v0_3,I s.given.bound]] w fun v w'=>v = Bo r∧Star H w' []:=by
 unfold i_Step_shaped at hF
 refine C_enter Tryd.func71 rfl Tryd.ntmps71 rfl (sq (L_box (v:=.agg #[I s.kind,I s.a,I s.b,v0_3,I s.given.bound]) (cs:=#[I s.kind,I s.a,I s.b,v0_3,I s.given.bound]) rfl rfl rfl Z (fun g3 w4 Z=>aB rfl (nq ?_))))
 obtain ⟨x10,hx10,hF⟩:=bind_some hF
 refine W_region (fA 0 fa_75_0 rfl rfl (ldB 0 Z Tryd.isAgg3 rfl rfl rfl ?_))
 obtain ⟨H12b,l13,s14,z15,k16⟩:=Z.borrow
 refine L_call rfl Tryd.call76 (ops1 rfl) (i_refers_c (kind:=s.kind) s14 hx10) ?_
 rintro _ w17 ⟨rfl,Z⟩
 have Z:=k16 Z c0
 refine mV (.tuple #[I x10.1,Bo x10.2]) rfl (L_ex (v:=I x10.1) rfl rfl rfl (L_ex (v:=Bo x10.2) rfl rfl rfl (aI rfl (aB rfl (nq ?_)))))
 obtain ⟨b26,hb26,hF⟩:=bind_some hF
 obtain ⟨R27,hR27⟩:=exR fun f w_=>f 2 = Bo b26∧Star H w_ ([])
 refine W_join R27 ?_ ?_
 refine W_region (mI rfl (L_geq rfl rfl rfl (mB rfl (L_split (d:=13) (b:=decide (x10.1 ≥ 0)) rfl (fun hc28=>?_) (fun hc28=>?_)))))
 refine mI rfl (L_gtr rfl rfl rfl (mB rfl (L_split (d:=16) (b:=decide (x10.1 > 0)) rfl (fun hc29=>?_) (fun hc29=>?_))))
 refine ps rfl (ps rfl (ps rfl (L_pick (v:=Bo ((decide (x10.1 > 0)) || (s.kind == 6))) rfl rfl (or_t hc29) (mB rfl (L_split (d:=21) (b:=((decide (x10.1 > 0)) || (s.kind == 6))) rfl (fun hc30=>?_) (fun hc30=>?_))))))
 refine ps rfl (ps rfl (ps rfl (L_pick (v:=Bo (((decide (x10.1 > 0)) || (s.kind == 6)) || (s.a == 0))) rfl rfl (or_t hc30) (L_pick (v:=Bo ((decide (x10.1 ≥ 0)) && (((decide (x10.1 > 0)) || (s.kind == 6)) || (s.a == 0)))) rfl rfl (and_t hc28 rfl) (mB rfl (L_split (d:=27) (b:=((decide (x10.1 ≥ 0)) && (((decide (x10.1 > 0)) || (s.kind == 6)) || (s.a == 0)))) rfl (fun hc31=>?_) (fun hc31=>?_)))))))
 refine mI rfl (L_eql rfl rfl rfl (mB rfl (L_split (d:=30) (b:=(x10.1 == 2)) rfl (fun hc32=>?_) (fun hc32=>?_))))
 refine ps rfl (L_pick (v:=Bo ((x10.1 == 2) || x10.2)) rfl rfl (or_t hc32) (mB rfl (L_split (d:=33) (b:=((x10.1 == 2) || x10.2)) rfl (fun hc33=>?_) (fun hc33=>?_))))
 refine ps rfl (ps rfl (ps rfl (L_pick (v:=Bo (((x10.1 == 2) || x10.2) || (s.b == 0))) rfl rfl (or_t hc33) (L_pick (v:=Bo (((decide (x10.1 ≥ 0)) && (((decide (x10.1 > 0)) || (s.kind == 6)) || (s.a == 0))) && (((x10.1 == 2) || x10.2) || (s.b == 0)))) rfl rfl (and_t hc31 rfl) (mB rfl (L_split (d:=39) (b:=(((decide (x10.1 ≥ 0)) && (((decide (x10.1 > 0)) || (s.kind == 6)) || (s.a == 0))) && (((x10.1 == 2) || x10.2) || (s.b == 0)))) rfl (fun hc34=>?_) (fun hc34=>?_)))))))
 rw [ite_t hc34] at hb26
 obtain ⟨b25,hb25,hb26⟩:=bind_some hb26
 refine fA 0 fa_75_0 rfl rfl (ldB 0 Z Tryd.isAgg3 rfl rfl rfl (L_eql rfl rfl rfl (mB rfl (L_split (d:=43) (b:=(s.kind == 7)) rfl (fun hc35=>?_) (fun hc35=>?_)))))
 rw [ite_t hc35] at hb25
 refine ps rfl (ps rfl (ps rfl (ps rfl (L_pick (v:=Bo b25) rfl rfl (congrArg Value.bool (so hb25)) (L_pick (v:=Bo b26) rfl rfl (congrArg Value.bool (so hb26)) (aB rfl (nn (rj hR27 ⟨rfl,(Star.keepN 0 Z)⟩))))))))
 rw [ite_f hc35] at hb25
 obtain ⟨x23,hx23,hb25⟩:=bind_some hb25
 refine fA 3 fa_75_3 rfl rfl (L_lda (cs:=[v0_3,I s.given.bound]) rfl Tryd.isAgg73 Tryd.sizeOf73 rfl (At.sub0 (Blk.at (Star.blkAt 0 Z rfl)) 3 2) rfl (L_bld rfl (parts0 ) (bld_73_  ) ?_))
 obtain ⟨H36b,l37,s38,z39,k40⟩:=Z.borrow
 refine L_call rfl Tryd.call99 (ops2 rfl rfl) (i_ConstraintSame_c (a:=s.given) (b:=({ terms:=[],bound:=0 } : Con)) s38 (RP.mono _ h0_3 l37) (rel_nil _ _ _) hx23) ?_
 rintro _ w41 ⟨rfl,Z⟩
 have Z:=k40 Z c0
 refine L_pick (v:=Bo b25) rfl rfl (congrArg Value.bool (so hb25)) (L_pick (v:=Bo b26) rfl rfl (congrArg Value.bool (so hb26)) (aB rfl (nn (rj hR27 ⟨rfl,(Star.keepN 0 Z)⟩))))
 rw [ite_f hc34] at hb26
 refine ps rfl (ps rfl (ps rfl (ps rfl (ps rfl (ps rfl (ps rfl (ps rfl (ps rfl (L_pick (v:=Bo b26) rfl rfl (congrArg Value.bool (so hb26)) (aB rfl (nn (rj hR27 ⟨rfl,(Star.keepN 0 Z)⟩))))))))))))
 refine fA 2 fa_75_2 rfl rfl (ldB 0 Z Tryd.isAgg3 rfl rfl rfl (L_eql rfl rfl rfl (L_pick (v:=Bo (((x10.1 == 2) || x10.2) || (s.b == 0))) rfl rfl (or_f hc33 rfl) (L_pick (v:=Bo (((decide (x10.1 ≥ 0)) && (((decide (x10.1 > 0)) || (s.kind == 6)) || (s.a == 0))) && (((x10.1 == 2) || x10.2) || (s.b == 0)))) rfl rfl (and_t hc31 rfl) (mB rfl (L_split (d:=39) (b:=(((decide (x10.1 ≥ 0)) && (((decide (x10.1 > 0)) || (s.kind == 6)) || (s.a == 0))) && (((x10.1 == 2) || x10.2) || (s.b == 0)))) rfl (fun hc42=>?_) (fun hc42=>?_)))))))
 rw [ite_t hc42] at hb26
 obtain ⟨b25,hb25,hb26⟩:=bind_some hb26
 refine fA 0 fa_75_0 rfl rfl (ldB 0 Z Tryd.isAgg3 rfl rfl rfl (L_eql rfl rfl rfl (mB rfl (L_split (d:=43) (b:=(s.kind == 7)) rfl (fun hc43=>?_) (fun hc43=>?_)))))
 rw [ite_t hc43] at hb25
 refine ps rfl (ps rfl (ps rfl (ps rfl (L_pick (v:=Bo b25) rfl rfl (congrArg Value.bool (so hb25)) (L_pick (v:=Bo b26) rfl rfl (congrArg Value.bool (so hb26)) (aB rfl (nn (rj hR27 ⟨rfl,(Star.keepN 0 Z)⟩))))))))
 rw [ite_f hc43] at hb25
 obtain ⟨x23,hx23,hb25⟩:=bind_some hb25
 refine fA 3 fa_75_3 rfl rfl (L_lda (cs:=[v0_3,I s.given.bound]) rfl Tryd.isAgg73 Tryd.sizeOf73 rfl (At.sub0 (Blk.at (Star.blkAt 0 Z rfl)) 3 2) rfl (L_bld rfl (parts0 ) (bld_73_  ) ?_))
 obtain ⟨H44b,l45,s46,z47,k48⟩:=Z.borrow
 refine L_call rfl Tryd.call99 (ops2 rfl rfl) (i_ConstraintSame_c (a:=s.given) (b:=({ terms:=[],bound:=0 } : Con)) s46 (RP.mono _ h0_3 l45) (rel_nil _ _ _) hx23) ?_
 rintro _ w49 ⟨rfl,Z⟩
 have Z:=k48 Z c0
 refine L_pick (v:=Bo b25) rfl rfl (congrArg Value.bool (so hb25)) (L_pick (v:=Bo b26) rfl rfl (congrArg Value.bool (so hb26)) (aB rfl (nn (rj hR27 ⟨rfl,(Star.keepN 0 Z)⟩))))
 rw [ite_f hc42] at hb26
 refine ps rfl (ps rfl (ps rfl (ps rfl (ps rfl (ps rfl (ps rfl (ps rfl (ps rfl (L_pick (v:=Bo b26) rfl rfl (congrArg Value.bool (so hb26)) (aB rfl (nn (rj hR27 ⟨rfl,(Star.keepN 0 Z)⟩))))))))))))
 refine mB rfl (L_pick (v:=Bo ((x10.1 == 2) || x10.2)) rfl rfl (or_f hc32 rfl) (mB rfl (L_split (d:=33) (b:=((x10.1 == 2) || x10.2)) rfl (fun hc50=>?_) (fun hc50=>?_))))
 refine ps rfl (ps rfl (ps rfl (L_pick (v:=Bo (((x10.1 == 2) || x10.2) || (s.b == 0))) rfl rfl (or_t hc50) (L_pick (v:=Bo (((decide (x10.1 ≥ 0)) && (((decide (x10.1 > 0)) || (s.kind == 6)) || (s.a == 0))) && (((x10.1 == 2) || x10.2) || (s.b == 0)))) rfl rfl (and_t hc31 rfl) (mB rfl (L_split (d:=39) (b:=(((decide (x10.1 ≥ 0)) && (((decide (x10.1 > 0)) || (s.kind == 6)) || (s.a == 0))) && (((x10.1 == 2) || x10.2) || (s.b == 0)))) rfl (fun hc51=>?_) (fun hc51=>?_)))))))
 rw [ite_t hc51] at hb26
 obtain ⟨b25,hb25,hb26⟩:=bind_some hb26
 refine fA 0 fa_75_0 rfl rfl (ldB 0 Z Tryd.isAgg3 rfl rfl rfl (L_eql rfl rfl rfl (mB rfl (L_split (d:=43) (b:=(s.kind == 7)) rfl (fun hc52=>?_) (fun hc52=>?_)))))
 rw [ite_t hc52] at hb25
 refine ps rfl (ps rfl (ps rfl (ps rfl (L_pick (v:=Bo b25) rfl rfl (congrArg Value.bool (so hb25)) (L_pick (v:=Bo b26) rfl rfl (congrArg Value.bool (so hb26)) (aB rfl (nn (rj hR27 ⟨rfl,(Star.keepN 0 Z)⟩))))))))
 rw [ite_f hc52] at hb25
 obtain ⟨x23,hx23,hb25⟩:=bind_some hb25
 refine fA 3 fa_75_3 rfl rfl (L_lda (cs:=[v0_3,I s.given.bound]) rfl Tryd.isAgg73 Tryd.sizeOf73 rfl (At.sub0 (Blk.at (Star.blkAt 0 Z rfl)) 3 2) rfl (L_bld rfl (parts0 ) (bld_73_  ) ?_))
 obtain ⟨H53b,l54,s55,z56,k57⟩:=Z.borrow
 refine L_call rfl Tryd.call99 (ops2 rfl rfl) (i_ConstraintSame_c (a:=s.given) (b:=({ terms:=[],bound:=0 } : Con)) s55 (RP.mono _ h0_3 l54) (rel_nil _ _ _) hx23) ?_
 rintro _ w58 ⟨rfl,Z⟩
 have Z:=k57 Z c0
 refine L_pick (v:=Bo b25) rfl rfl (congrArg Value.bool (so hb25)) (L_pick (v:=Bo b26) rfl rfl (congrArg Value.bool (so hb26)) (aB rfl (nn (rj hR27 ⟨rfl,(Star.keepN 0 Z)⟩))))
 rw [ite_f hc51] at hb26
 refine ps rfl (ps rfl (ps rfl (ps rfl (ps rfl (ps rfl (ps rfl (ps rfl (ps rfl (L_pick (v:=Bo b26) rfl rfl (congrArg Value.bool (so hb26)) (aB rfl (nn (rj hR27 ⟨rfl,(Star.keepN 0 Z)⟩))))))))))))
 refine fA 2 fa_75_2 rfl rfl (ldB 0 Z Tryd.isAgg3 rfl rfl rfl (L_eql rfl rfl rfl (L_pick (v:=Bo (((x10.1 == 2) || x10.2) || (s.b == 0))) rfl rfl (or_f hc50 rfl) (L_pick (v:=Bo (((decide (x10.1 ≥ 0)) && (((decide (x10.1 > 0)) || (s.kind == 6)) || (s.a == 0))) && (((x10.1 == 2) || x10.2) || (s.b == 0)))) rfl rfl (and_t hc31 rfl) (mB rfl (L_split (d:=39) (b:=(((decide (x10.1 ≥ 0)) && (((decide (x10.1 > 0)) || (s.kind == 6)) || (s.a == 0))) && (((x10.1 == 2) || x10.2) || (s.b == 0)))) rfl (fun hc59=>?_) (fun hc59=>?_)))))))
 rw [ite_t hc59] at hb26
 obtain ⟨b25,hb25,hb26⟩:=bind_some hb26
 refine fA 0 fa_75_0 rfl rfl (ldB 0 Z Tryd.isAgg3 rfl rfl rfl (L_eql rfl rfl rfl (mB rfl (L_split (d:=43) (b:=(s.kind == 7)) rfl (fun hc60=>?_) (fun hc60=>?_)))))
 rw [ite_t hc60] at hb25
 refine ps rfl (ps rfl (ps rfl (ps rfl (L_pick (v:=Bo b25) rfl rfl (congrArg Value.bool (so hb25)) (L_pick (v:=Bo b26) rfl rfl (congrArg Value.bool (so hb26)) (aB rfl (nn (rj hR27 ⟨rfl,(Star.keepN 0 Z)⟩))))))))
 rw [ite_f hc60] at hb25
 obtain ⟨x23,hx23,hb25⟩:=bind_some hb25
 refine fA 3 fa_75_3 rfl rfl (L_lda (cs:=[v0_3,I s.given.bound]) rfl Tryd.isAgg73 Tryd.sizeOf73 rfl (At.sub0 (Blk.at (Star.blkAt 0 Z rfl)) 3 2) rfl (L_bld rfl (parts0 ) (bld_73_  ) ?_))
 obtain ⟨H61b,l62,s63,z64,k65⟩:=Z.borrow
 refine L_call rfl Tryd.call99 (ops2 rfl rfl) (i_ConstraintSame_c (a:=s.given) (b:=({ terms:=[],bound:=0 } : Con)) s63 (RP.mono _ h0_3 l62) (rel_nil _ _ _) hx23) ?_
 rintro _ w66 ⟨rfl,Z⟩
 have Z:=k65 Z c0
 refine L_pick (v:=Bo b25) rfl rfl (congrArg Value.bool (so hb25)) (L_pick (v:=Bo b26) rfl rfl (congrArg Value.bool (so hb26)) (aB rfl (nn (rj hR27 ⟨rfl,(Star.keepN 0 Z)⟩))))
 rw [ite_f hc59] at hb26
 refine ps rfl (ps rfl (ps rfl (ps rfl (ps rfl (ps rfl (ps rfl (ps rfl (ps rfl (L_pick (v:=Bo b26) rfl rfl (congrArg Value.bool (so hb26)) (aB rfl (nn (rj hR27 ⟨rfl,(Star.keepN 0 Z)⟩))))))))))))
 refine ps rfl (ps rfl (ps rfl (ps rfl (ps rfl (ps rfl (ps rfl (ps rfl (ps rfl (ps rfl (L_pick (v:=Bo (((decide (x10.1 ≥ 0)) && (((decide (x10.1 > 0)) || (s.kind == 6)) || (s.a == 0))) && (((x10.1 == 2) || x10.2) || (s.b == 0)))) rfl rfl (and_f hc31) (mB rfl (L_split (d:=39) (b:=(((decide (x10.1 ≥ 0)) && (((decide (x10.1 > 0)) || (s.kind == 6)) || (s.a == 0))) && (((x10.1 == 2) || x10.2) || (s.b == 0)))) rfl (fun hc67=>?_) (fun hc67=>?_)))))))))))))
 rw [ite_t hc67] at hb26
 obtain ⟨b25,hb25,hb26⟩:=bind_some hb26
 refine fA 0 fa_75_0 rfl rfl (ldB 0 Z Tryd.isAgg3 rfl rfl rfl (L_eql rfl rfl rfl (mB rfl (L_split (d:=43) (b:=(s.kind == 7)) rfl (fun hc68=>?_) (fun hc68=>?_)))))
 rw [ite_t hc68] at hb25
 refine ps rfl (ps rfl (ps rfl (ps rfl (L_pick (v:=Bo b25) rfl rfl (congrArg Value.bool (so hb25)) (L_pick (v:=Bo b26) rfl rfl (congrArg Value.bool (so hb26)) (aB rfl (nn (rj hR27 ⟨rfl,(Star.keepN 0 Z)⟩))))))))
 rw [ite_f hc68] at hb25
 obtain ⟨x23,hx23,hb25⟩:=bind_some hb25
 refine fA 3 fa_75_3 rfl rfl (L_lda (cs:=[v0_3,I s.given.bound]) rfl Tryd.isAgg73 Tryd.sizeOf73 rfl (At.sub0 (Blk.at (Star.blkAt 0 Z rfl)) 3 2) rfl (L_bld rfl (parts0 ) (bld_73_  ) ?_))
 obtain ⟨H69b,l70,s71,z72,k73⟩:=Z.borrow
 refine L_call rfl Tryd.call99 (ops2 rfl rfl) (i_ConstraintSame_c (a:=s.given) (b:=({ terms:=[],bound:=0 } : Con)) s71 (RP.mono _ h0_3 l70) (rel_nil _ _ _) hx23) ?_
 rintro _ w74 ⟨rfl,Z⟩
 have Z:=k73 Z c0
 refine L_pick (v:=Bo b25) rfl rfl (congrArg Value.bool (so hb25)) (L_pick (v:=Bo b26) rfl rfl (congrArg Value.bool (so hb26)) (aB rfl (nn (rj hR27 ⟨rfl,(Star.keepN 0 Z)⟩))))
 rw [ite_f hc67] at hb26
 refine ps rfl (ps rfl (ps rfl (ps rfl (ps rfl (ps rfl (ps rfl (ps rfl (ps rfl (L_pick (v:=Bo b26) rfl rfl (congrArg Value.bool (so hb26)) (aB rfl (nn (rj hR27 ⟨rfl,(Star.keepN 0 Z)⟩))))))))))))
 refine fA 1 fa_75_1 rfl rfl (ldB 0 Z Tryd.isAgg3 rfl rfl rfl (L_eql rfl rfl rfl (L_pick (v:=Bo (((decide (x10.1 > 0)) || (s.kind == 6)) || (s.a == 0))) rfl rfl (or_f hc30 rfl) (L_pick (v:=Bo ((decide (x10.1 ≥ 0)) && (((decide (x10.1 > 0)) || (s.kind == 6)) || (s.a == 0)))) rfl rfl (and_t hc28 rfl) (mB rfl (L_split (d:=27) (b:=((decide (x10.1 ≥ 0)) && (((decide (x10.1 > 0)) || (s.kind == 6)) || (s.a == 0)))) rfl (fun hc75=>?_) (fun hc75=>?_)))))))
 refine mI rfl (L_eql rfl rfl rfl (mB rfl (L_split (d:=30) (b:=(x10.1 == 2)) rfl (fun hc76=>?_) (fun hc76=>?_))))
 refine ps rfl (L_pick (v:=Bo ((x10.1 == 2) || x10.2)) rfl rfl (or_t hc76) (mB rfl (L_split (d:=33) (b:=((x10.1 == 2) || x10.2)) rfl (fun hc77=>?_) (fun hc77=>?_))))
 refine ps rfl (ps rfl (ps rfl (L_pick (v:=Bo (((x10.1 == 2) || x10.2) || (s.b == 0))) rfl rfl (or_t hc77) (L_pick (v:=Bo (((decide (x10.1 ≥ 0)) && (((decide (x10.1 > 0)) || (s.kind == 6)) || (s.a == 0))) && (((x10.1 == 2) || x10.2) || (s.b == 0)))) rfl rfl (and_t hc75 rfl) (mB rfl (L_split (d:=39) (b:=(((decide (x10.1 ≥ 0)) && (((decide (x10.1 > 0)) || (s.kind == 6)) || (s.a == 0))) && (((x10.1 == 2) || x10.2) || (s.b == 0)))) rfl (fun hc78=>?_) (fun hc78=>?_)))))))
 rw [ite_t hc78] at hb26
 obtain ⟨b25,hb25,hb26⟩:=bind_some hb26
 refine fA 0 fa_75_0 rfl rfl (ldB 0 Z Tryd.isAgg3 rfl rfl rfl (L_eql rfl rfl rfl (mB rfl (L_split (d:=43) (b:=(s.kind == 7)) rfl (fun hc79=>?_) (fun hc79=>?_)))))
 rw [ite_t hc79] at hb25
 refine ps rfl (ps rfl (ps rfl (ps rfl (L_pick (v:=Bo b25) rfl rfl (congrArg Value.bool (so hb25)) (L_pick (v:=Bo b26) rfl rfl (congrArg Value.bool (so hb26)) (aB rfl (nn (rj hR27 ⟨rfl,(Star.keepN 0 Z)⟩))))))))
 rw [ite_f hc79] at hb25
 obtain ⟨x23,hx23,hb25⟩:=bind_some hb25
 refine fA 3 fa_75_3 rfl rfl (L_lda (cs:=[v0_3,I s.given.bound]) rfl Tryd.isAgg73 Tryd.sizeOf73 rfl (At.sub0 (Blk.at (Star.blkAt 0 Z rfl)) 3 2) rfl (L_bld rfl (parts0 ) (bld_73_  ) ?_))
 obtain ⟨H80b,l81,s82,z83,k84⟩:=Z.borrow
 refine L_call rfl Tryd.call99 (ops2 rfl rfl) (i_ConstraintSame_c (a:=s.given) (b:=({ terms:=[],bound:=0 } : Con)) s82 (RP.mono _ h0_3 l81) (rel_nil _ _ _) hx23) ?_
 rintro _ w85 ⟨rfl,Z⟩
 have Z:=k84 Z c0
 refine L_pick (v:=Bo b25) rfl rfl (congrArg Value.bool (so hb25)) (L_pick (v:=Bo b26) rfl rfl (congrArg Value.bool (so hb26)) (aB rfl (nn (rj hR27 ⟨rfl,(Star.keepN 0 Z)⟩))))
 rw [ite_f hc78] at hb26
 refine ps rfl (ps rfl (ps rfl (ps rfl (ps rfl (ps rfl (ps rfl (ps rfl (ps rfl (L_pick (v:=Bo b26) rfl rfl (congrArg Value.bool (so hb26)) (aB rfl (nn (rj hR27 ⟨rfl,(Star.keepN 0 Z)⟩))))))))))))
 refine fA 2 fa_75_2 rfl rfl (ldB 0 Z Tryd.isAgg3 rfl rfl rfl (L_eql rfl rfl rfl (L_pick (v:=Bo (((x10.1 == 2) || x10.2) || (s.b == 0))) rfl rfl (or_f hc77 rfl) (L_pick (v:=Bo (((decide (x10.1 ≥ 0)) && (((decide (x10.1 > 0)) || (s.kind == 6)) || (s.a == 0))) && (((x10.1 == 2) || x10.2) || (s.b == 0)))) rfl rfl (and_t hc75 rfl) (mB rfl (L_split (d:=39) (b:=(((decide (x10.1 ≥ 0)) && (((decide (x10.1 > 0)) || (s.kind == 6)) || (s.a == 0))) && (((x10.1 == 2) || x10.2) || (s.b == 0)))) rfl (fun hc86=>?_) (fun hc86=>?_)))))))
 rw [ite_t hc86] at hb26
 obtain ⟨b25,hb25,hb26⟩:=bind_some hb26
 refine fA 0 fa_75_0 rfl rfl (ldB 0 Z Tryd.isAgg3 rfl rfl rfl (L_eql rfl rfl rfl (mB rfl (L_split (d:=43) (b:=(s.kind == 7)) rfl (fun hc87=>?_) (fun hc87=>?_)))))
 rw [ite_t hc87] at hb25
 refine ps rfl (ps rfl (ps rfl (ps rfl (L_pick (v:=Bo b25) rfl rfl (congrArg Value.bool (so hb25)) (L_pick (v:=Bo b26) rfl rfl (congrArg Value.bool (so hb26)) (aB rfl (nn (rj hR27 ⟨rfl,(Star.keepN 0 Z)⟩))))))))
 rw [ite_f hc87] at hb25
 obtain ⟨x23,hx23,hb25⟩:=bind_some hb25
 refine fA 3 fa_75_3 rfl rfl (L_lda (cs:=[v0_3,I s.given.bound]) rfl Tryd.isAgg73 Tryd.sizeOf73 rfl (At.sub0 (Blk.at (Star.blkAt 0 Z rfl)) 3 2) rfl (L_bld rfl (parts0 ) (bld_73_  ) ?_))
 obtain ⟨H88b,l89,s90,z91,k92⟩:=Z.borrow
 refine L_call rfl Tryd.call99 (ops2 rfl rfl) (i_ConstraintSame_c (a:=s.given) (b:=({ terms:=[],bound:=0 } : Con)) s90 (RP.mono _ h0_3 l89) (rel_nil _ _ _) hx23) ?_
 rintro _ w93 ⟨rfl,Z⟩
 have Z:=k92 Z c0
 refine L_pick (v:=Bo b25) rfl rfl (congrArg Value.bool (so hb25)) (L_pick (v:=Bo b26) rfl rfl (congrArg Value.bool (so hb26)) (aB rfl (nn (rj hR27 ⟨rfl,(Star.keepN 0 Z)⟩))))
 rw [ite_f hc86] at hb26
 refine ps rfl (ps rfl (ps rfl (ps rfl (ps rfl (ps rfl (ps rfl (ps rfl (ps rfl (L_pick (v:=Bo b26) rfl rfl (congrArg Value.bool (so hb26)) (aB rfl (nn (rj hR27 ⟨rfl,(Star.keepN 0 Z)⟩))))))))))))
 refine mB rfl (L_pick (v:=Bo ((x10.1 == 2) || x10.2)) rfl rfl (or_f hc76 rfl) (mB rfl (L_split (d:=33) (b:=((x10.1 == 2) || x10.2)) rfl (fun hc94=>?_) (fun hc94=>?_))))
 refine ps rfl (ps rfl (ps rfl (L_pick (v:=Bo (((x10.1 == 2) || x10.2) || (s.b == 0))) rfl rfl (or_t hc94) (L_pick (v:=Bo (((decide (x10.1 ≥ 0)) && (((decide (x10.1 > 0)) || (s.kind == 6)) || (s.a == 0))) && (((x10.1 == 2) || x10.2) || (s.b == 0)))) rfl rfl (and_t hc75 rfl) (mB rfl (L_split (d:=39) (b:=(((decide (x10.1 ≥ 0)) && (((decide (x10.1 > 0)) || (s.kind == 6)) || (s.a == 0))) && (((x10.1 == 2) || x10.2) || (s.b == 0)))) rfl (fun hc95=>?_) (fun hc95=>?_)))))))
 rw [ite_t hc95] at hb26
 obtain ⟨b25,hb25,hb26⟩:=bind_some hb26
 refine fA 0 fa_75_0 rfl rfl (ldB 0 Z Tryd.isAgg3 rfl rfl rfl (L_eql rfl rfl rfl (mB rfl (L_split (d:=43) (b:=(s.kind == 7)) rfl (fun hc96=>?_) (fun hc96=>?_)))))
 rw [ite_t hc96] at hb25
 refine ps rfl (ps rfl (ps rfl (ps rfl (L_pick (v:=Bo b25) rfl rfl (congrArg Value.bool (so hb25)) (L_pick (v:=Bo b26) rfl rfl (congrArg Value.bool (so hb26)) (aB rfl (nn (rj hR27 ⟨rfl,(Star.keepN 0 Z)⟩))))))))
 rw [ite_f hc96] at hb25
 obtain ⟨x23,hx23,hb25⟩:=bind_some hb25
 refine fA 3 fa_75_3 rfl rfl (L_lda (cs:=[v0_3,I s.given.bound]) rfl Tryd.isAgg73 Tryd.sizeOf73 rfl (At.sub0 (Blk.at (Star.blkAt 0 Z rfl)) 3 2) rfl (L_bld rfl (parts0 ) (bld_73_  ) ?_))
 obtain ⟨H97b,l98,s99,z100,k101⟩:=Z.borrow
 refine L_call rfl Tryd.call99 (ops2 rfl rfl) (i_ConstraintSame_c (a:=s.given) (b:=({ terms:=[],bound:=0 } : Con)) s99 (RP.mono _ h0_3 l98) (rel_nil _ _ _) hx23) ?_
 rintro _ w102 ⟨rfl,Z⟩
 have Z:=k101 Z c0
 refine L_pick (v:=Bo b25) rfl rfl (congrArg Value.bool (so hb25)) (L_pick (v:=Bo b26) rfl rfl (congrArg Value.bool (so hb26)) (aB rfl (nn (rj hR27 ⟨rfl,(Star.keepN 0 Z)⟩))))
 rw [ite_f hc95] at hb26
 refine ps rfl (ps rfl (ps rfl (ps rfl (ps rfl (ps rfl (ps rfl (ps rfl (ps rfl (L_pick (v:=Bo b26) rfl rfl (congrArg Value.bool (so hb26)) (aB rfl (nn (rj hR27 ⟨rfl,(Star.keepN 0 Z)⟩))))))))))))
 refine fA 2 fa_75_2 rfl rfl (ldB 0 Z Tryd.isAgg3 rfl rfl rfl (L_eql rfl rfl rfl (L_pick (v:=Bo (((x10.1 == 2) || x10.2) || (s.b == 0))) rfl rfl (or_f hc94 rfl) (L_pick (v:=Bo (((decide (x10.1 ≥ 0)) && (((decide (x10.1 > 0)) || (s.kind == 6)) || (s.a == 0))) && (((x10.1 == 2) || x10.2) || (s.b == 0)))) rfl rfl (and_t hc75 rfl) (mB rfl (L_split (d:=39) (b:=(((decide (x10.1 ≥ 0)) && (((decide (x10.1 > 0)) || (s.kind == 6)) || (s.a == 0))) && (((x10.1 == 2) || x10.2) || (s.b == 0)))) rfl (fun hc103=>?_) (fun hc103=>?_)))))))
 rw [ite_t hc103] at hb26
 obtain ⟨b25,hb25,hb26⟩:=bind_some hb26
 refine fA 0 fa_75_0 rfl rfl (ldB 0 Z Tryd.isAgg3 rfl rfl rfl (L_eql rfl rfl rfl (mB rfl (L_split (d:=43) (b:=(s.kind == 7)) rfl (fun hc104=>?_) (fun hc104=>?_)))))
 rw [ite_t hc104] at hb25
 refine ps rfl (ps rfl (ps rfl (ps rfl (L_pick (v:=Bo b25) rfl rfl (congrArg Value.bool (so hb25)) (L_pick (v:=Bo b26) rfl rfl (congrArg Value.bool (so hb26)) (aB rfl (nn (rj hR27 ⟨rfl,(Star.keepN 0 Z)⟩))))))))
 rw [ite_f hc104] at hb25
 obtain ⟨x23,hx23,hb25⟩:=bind_some hb25
 refine fA 3 fa_75_3 rfl rfl (L_lda (cs:=[v0_3,I s.given.bound]) rfl Tryd.isAgg73 Tryd.sizeOf73 rfl (At.sub0 (Blk.at (Star.blkAt 0 Z rfl)) 3 2) rfl (L_bld rfl (parts0 ) (bld_73_  ) ?_))
 obtain ⟨H105b,l106,s107,z108,k109⟩:=Z.borrow
 refine L_call rfl Tryd.call99 (ops2 rfl rfl) (i_ConstraintSame_c (a:=s.given) (b:=({ terms:=[],bound:=0 } : Con)) s107 (RP.mono _ h0_3 l106) (rel_nil _ _ _) hx23) ?_
 rintro _ w110 ⟨rfl,Z⟩
 have Z:=k109 Z c0
 refine L_pick (v:=Bo b25) rfl rfl (congrArg Value.bool (so hb25)) (L_pick (v:=Bo b26) rfl rfl (congrArg Value.bool (so hb26)) (aB rfl (nn (rj hR27 ⟨rfl,(Star.keepN 0 Z)⟩))))
 rw [ite_f hc103] at hb26
 refine ps rfl (ps rfl (ps rfl (ps rfl (ps rfl (ps rfl (ps rfl (ps rfl (ps rfl (L_pick (v:=Bo b26) rfl rfl (congrArg Value.bool (so hb26)) (aB rfl (nn (rj hR27 ⟨rfl,(Star.keepN 0 Z)⟩))))))))))))
 refine ps rfl (ps rfl (ps rfl (ps rfl (ps rfl (ps rfl (ps rfl (ps rfl (ps rfl (ps rfl (L_pick (v:=Bo (((decide (x10.1 ≥ 0)) && (((decide (x10.1 > 0)) || (s.kind == 6)) || (s.a == 0))) && (((x10.1 == 2) || x10.2) || (s.b == 0)))) rfl rfl (and_f hc75) (mB rfl (L_split (d:=39) (b:=(((decide (x10.1 ≥ 0)) && (((decide (x10.1 > 0)) || (s.kind == 6)) || (s.a == 0))) && (((x10.1 == 2) || x10.2) || (s.b == 0)))) rfl (fun hc111=>?_) (fun hc111=>?_)))))))))))))
 rw [ite_t hc111] at hb26
 obtain ⟨b25,hb25,hb26⟩:=bind_some hb26
 refine fA 0 fa_75_0 rfl rfl (ldB 0 Z Tryd.isAgg3 rfl rfl rfl (L_eql rfl rfl rfl (mB rfl (L_split (d:=43) (b:=(s.kind == 7)) rfl (fun hc112=>?_) (fun hc112=>?_)))))
 rw [ite_t hc112] at hb25
 refine ps rfl (ps rfl (ps rfl (ps rfl (L_pick (v:=Bo b25) rfl rfl (congrArg Value.bool (so hb25)) (L_pick (v:=Bo b26) rfl rfl (congrArg Value.bool (so hb26)) (aB rfl (nn (rj hR27 ⟨rfl,(Star.keepN 0 Z)⟩))))))))
 rw [ite_f hc112] at hb25
 obtain ⟨x23,hx23,hb25⟩:=bind_some hb25
 refine fA 3 fa_75_3 rfl rfl (L_lda (cs:=[v0_3,I s.given.bound]) rfl Tryd.isAgg73 Tryd.sizeOf73 rfl (At.sub0 (Blk.at (Star.blkAt 0 Z rfl)) 3 2) rfl (L_bld rfl (parts0 ) (bld_73_  ) ?_))
 obtain ⟨H113b,l114,s115,z116,k117⟩:=Z.borrow
 refine L_call rfl Tryd.call99 (ops2 rfl rfl) (i_ConstraintSame_c (a:=s.given) (b:=({ terms:=[],bound:=0 } : Con)) s115 (RP.mono _ h0_3 l114) (rel_nil _ _ _) hx23) ?_
 rintro _ w118 ⟨rfl,Z⟩
 have Z:=k117 Z c0
 refine L_pick (v:=Bo b25) rfl rfl (congrArg Value.bool (so hb25)) (L_pick (v:=Bo b26) rfl rfl (congrArg Value.bool (so hb26)) (aB rfl (nn (rj hR27 ⟨rfl,(Star.keepN 0 Z)⟩))))
 rw [ite_f hc111] at hb26
 refine ps rfl (ps rfl (ps rfl (ps rfl (ps rfl (ps rfl (ps rfl (ps rfl (ps rfl (L_pick (v:=Bo b26) rfl rfl (congrArg Value.bool (so hb26)) (aB rfl (nn (rj hR27 ⟨rfl,(Star.keepN 0 Z)⟩))))))))))))
 refine fA 0 fa_75_0 rfl rfl (ldB 0 Z Tryd.isAgg3 rfl rfl rfl (L_eql rfl rfl rfl (L_pick (v:=Bo ((decide (x10.1 > 0)) || (s.kind == 6))) rfl rfl (or_f hc29 rfl) (mB rfl (L_split (d:=21) (b:=((decide (x10.1 > 0)) || (s.kind == 6))) rfl (fun hc119=>?_) (fun hc119=>?_))))))
 refine ps rfl (ps rfl (ps rfl (L_pick (v:=Bo (((decide (x10.1 > 0)) || (s.kind == 6)) || (s.a == 0))) rfl rfl (or_t hc119) (L_pick (v:=Bo ((decide (x10.1 ≥ 0)) && (((decide (x10.1 > 0)) || (s.kind == 6)) || (s.a == 0)))) rfl rfl (and_t hc28 rfl) (mB rfl (L_split (d:=27) (b:=((decide (x10.1 ≥ 0)) && (((decide (x10.1 > 0)) || (s.kind == 6)) || (s.a == 0)))) rfl (fun hc120=>?_) (fun hc120=>?_)))))))
 refine mI rfl (L_eql rfl rfl rfl (mB rfl (L_split (d:=30) (b:=(x10.1 == 2)) rfl (fun hc121=>?_) (fun hc121=>?_))))
 refine ps rfl (L_pick (v:=Bo ((x10.1 == 2) || x10.2)) rfl rfl (or_t hc121) (mB rfl (L_split (d:=33) (b:=((x10.1 == 2) || x10.2)) rfl (fun hc122=>?_) (fun hc122=>?_))))
 refine ps rfl (ps rfl (ps rfl (L_pick (v:=Bo (((x10.1 == 2) || x10.2) || (s.b == 0))) rfl rfl (or_t hc122) (L_pick (v:=Bo (((decide (x10.1 ≥ 0)) && (((decide (x10.1 > 0)) || (s.kind == 6)) || (s.a == 0))) && (((x10.1 == 2) || x10.2) || (s.b == 0)))) rfl rfl (and_t hc120 rfl) (mB rfl (L_split (d:=39) (b:=(((decide (x10.1 ≥ 0)) && (((decide (x10.1 > 0)) || (s.kind == 6)) || (s.a == 0))) && (((x10.1 == 2) || x10.2) || (s.b == 0)))) rfl (fun hc123=>?_) (fun hc123=>?_)))))))
 rw [ite_t hc123] at hb26
 obtain ⟨b25,hb25,hb26⟩:=bind_some hb26
 refine fA 0 fa_75_0 rfl rfl (ldB 0 Z Tryd.isAgg3 rfl rfl rfl (L_eql rfl rfl rfl (mB rfl (L_split (d:=43) (b:=(s.kind == 7)) rfl (fun hc124=>?_) (fun hc124=>?_)))))
 rw [ite_t hc124] at hb25
 refine ps rfl (ps rfl (ps rfl (ps rfl (L_pick (v:=Bo b25) rfl rfl (congrArg Value.bool (so hb25)) (L_pick (v:=Bo b26) rfl rfl (congrArg Value.bool (so hb26)) (aB rfl (nn (rj hR27 ⟨rfl,(Star.keepN 0 Z)⟩))))))))
 rw [ite_f hc124] at hb25
 obtain ⟨x23,hx23,hb25⟩:=bind_some hb25
 refine fA 3 fa_75_3 rfl rfl (L_lda (cs:=[v0_3,I s.given.bound]) rfl Tryd.isAgg73 Tryd.sizeOf73 rfl (At.sub0 (Blk.at (Star.blkAt 0 Z rfl)) 3 2) rfl (L_bld rfl (parts0 ) (bld_73_  ) ?_))
 obtain ⟨H125b,l126,s127,z128,k129⟩:=Z.borrow
 refine L_call rfl Tryd.call99 (ops2 rfl rfl) (i_ConstraintSame_c (a:=s.given) (b:=({ terms:=[],bound:=0 } : Con)) s127 (RP.mono _ h0_3 l126) (rel_nil _ _ _) hx23) ?_
 rintro _ w130 ⟨rfl,Z⟩
 have Z:=k129 Z c0
 refine L_pick (v:=Bo b25) rfl rfl (congrArg Value.bool (so hb25)) (L_pick (v:=Bo b26) rfl rfl (congrArg Value.bool (so hb26)) (aB rfl (nn (rj hR27 ⟨rfl,(Star.keepN 0 Z)⟩))))
 rw [ite_f hc123] at hb26
 refine ps rfl (ps rfl (ps rfl (ps rfl (ps rfl (ps rfl (ps rfl (ps rfl (ps rfl (L_pick (v:=Bo b26) rfl rfl (congrArg Value.bool (so hb26)) (aB rfl (nn (rj hR27 ⟨rfl,(Star.keepN 0 Z)⟩))))))))))))
 refine fA 2 fa_75_2 rfl rfl (ldB 0 Z Tryd.isAgg3 rfl rfl rfl (L_eql rfl rfl rfl (L_pick (v:=Bo (((x10.1 == 2) || x10.2) || (s.b == 0))) rfl rfl (or_f hc122 rfl) (L_pick (v:=Bo (((decide (x10.1 ≥ 0)) && (((decide (x10.1 > 0)) || (s.kind == 6)) || (s.a == 0))) && (((x10.1 == 2) || x10.2) || (s.b == 0)))) rfl rfl (and_t hc120 rfl) (mB rfl (L_split (d:=39) (b:=(((decide (x10.1 ≥ 0)) && (((decide (x10.1 > 0)) || (s.kind == 6)) || (s.a == 0))) && (((x10.1 == 2) || x10.2) || (s.b == 0)))) rfl (fun hc131=>?_) (fun hc131=>?_)))))))
 rw [ite_t hc131] at hb26
 obtain ⟨b25,hb25,hb26⟩:=bind_some hb26
 refine fA 0 fa_75_0 rfl rfl (ldB 0 Z Tryd.isAgg3 rfl rfl rfl (L_eql rfl rfl rfl (mB rfl (L_split (d:=43) (b:=(s.kind == 7)) rfl (fun hc132=>?_) (fun hc132=>?_)))))
 rw [ite_t hc132] at hb25
 refine ps rfl (ps rfl (ps rfl (ps rfl (L_pick (v:=Bo b25) rfl rfl (congrArg Value.bool (so hb25)) (L_pick (v:=Bo b26) rfl rfl (congrArg Value.bool (so hb26)) (aB rfl (nn (rj hR27 ⟨rfl,(Star.keepN 0 Z)⟩))))))))
 rw [ite_f hc132] at hb25
 obtain ⟨x23,hx23,hb25⟩:=bind_some hb25
 refine fA 3 fa_75_3 rfl rfl (L_lda (cs:=[v0_3,I s.given.bound]) rfl Tryd.isAgg73 Tryd.sizeOf73 rfl (At.sub0 (Blk.at (Star.blkAt 0 Z rfl)) 3 2) rfl (L_bld rfl (parts0 ) (bld_73_  ) ?_))
 obtain ⟨H133b,l134,s135,z136,k137⟩:=Z.borrow
 refine L_call rfl Tryd.call99 (ops2 rfl rfl) (i_ConstraintSame_c (a:=s.given) (b:=({ terms:=[],bound:=0 } : Con)) s135 (RP.mono _ h0_3 l134) (rel_nil _ _ _) hx23) ?_
 rintro _ w138 ⟨rfl,Z⟩
 have Z:=k137 Z c0
 refine L_pick (v:=Bo b25) rfl rfl (congrArg Value.bool (so hb25)) (L_pick (v:=Bo b26) rfl rfl (congrArg Value.bool (so hb26)) (aB rfl (nn (rj hR27 ⟨rfl,(Star.keepN 0 Z)⟩))))
 rw [ite_f hc131] at hb26
 refine ps rfl (ps rfl (ps rfl (ps rfl (ps rfl (ps rfl (ps rfl (ps rfl (ps rfl (L_pick (v:=Bo b26) rfl rfl (congrArg Value.bool (so hb26)) (aB rfl (nn (rj hR27 ⟨rfl,(Star.keepN 0 Z)⟩))))))))))))
 refine mB rfl (L_pick (v:=Bo ((x10.1 == 2) || x10.2)) rfl rfl (or_f hc121 rfl) (mB rfl (L_split (d:=33) (b:=((x10.1 == 2) || x10.2)) rfl (fun hc139=>?_) (fun hc139=>?_))))
 refine ps rfl (ps rfl (ps rfl (L_pick (v:=Bo (((x10.1 == 2) || x10.2) || (s.b == 0))) rfl rfl (or_t hc139) (L_pick (v:=Bo (((decide (x10.1 ≥ 0)) && (((decide (x10.1 > 0)) || (s.kind == 6)) || (s.a == 0))) && (((x10.1 == 2) || x10.2) || (s.b == 0)))) rfl rfl (and_t hc120 rfl) (mB rfl (L_split (d:=39) (b:=(((decide (x10.1 ≥ 0)) && (((decide (x10.1 > 0)) || (s.kind == 6)) || (s.a == 0))) && (((x10.1 == 2) || x10.2) || (s.b == 0)))) rfl (fun hc140=>?_) (fun hc140=>?_)))))))
 rw [ite_t hc140] at hb26
 obtain ⟨b25,hb25,hb26⟩:=bind_some hb26
 refine fA 0 fa_75_0 rfl rfl (ldB 0 Z Tryd.isAgg3 rfl rfl rfl (L_eql rfl rfl rfl (mB rfl (L_split (d:=43) (b:=(s.kind == 7)) rfl (fun hc141=>?_) (fun hc141=>?_)))))
 rw [ite_t hc141] at hb25
 refine ps rfl (ps rfl (ps rfl (ps rfl (L_pick (v:=Bo b25) rfl rfl (congrArg Value.bool (so hb25)) (L_pick (v:=Bo b26) rfl rfl (congrArg Value.bool (so hb26)) (aB rfl (nn (rj hR27 ⟨rfl,(Star.keepN 0 Z)⟩))))))))
 rw [ite_f hc141] at hb25
 obtain ⟨x23,hx23,hb25⟩:=bind_some hb25
 refine fA 3 fa_75_3 rfl rfl (L_lda (cs:=[v0_3,I s.given.bound]) rfl Tryd.isAgg73 Tryd.sizeOf73 rfl (At.sub0 (Blk.at (Star.blkAt 0 Z rfl)) 3 2) rfl (L_bld rfl (parts0 ) (bld_73_  ) ?_))
 obtain ⟨H142b,l143,s144,z145,k146⟩:=Z.borrow
 refine L_call rfl Tryd.call99 (ops2 rfl rfl) (i_ConstraintSame_c (a:=s.given) (b:=({ terms:=[],bound:=0 } : Con)) s144 (RP.mono _ h0_3 l143) (rel_nil _ _ _) hx23) ?_
 rintro _ w147 ⟨rfl,Z⟩
 have Z:=k146 Z c0
 refine L_pick (v:=Bo b25) rfl rfl (congrArg Value.bool (so hb25)) (L_pick (v:=Bo b26) rfl rfl (congrArg Value.bool (so hb26)) (aB rfl (nn (rj hR27 ⟨rfl,(Star.keepN 0 Z)⟩))))
 rw [ite_f hc140] at hb26
 refine ps rfl (ps rfl (ps rfl (ps rfl (ps rfl (ps rfl (ps rfl (ps rfl (ps rfl (L_pick (v:=Bo b26) rfl rfl (congrArg Value.bool (so hb26)) (aB rfl (nn (rj hR27 ⟨rfl,(Star.keepN 0 Z)⟩))))))))))))
 refine fA 2 fa_75_2 rfl rfl (ldB 0 Z Tryd.isAgg3 rfl rfl rfl (L_eql rfl rfl rfl (L_pick (v:=Bo (((x10.1 == 2) || x10.2) || (s.b == 0))) rfl rfl (or_f hc139 rfl) (L_pick (v:=Bo (((decide (x10.1 ≥ 0)) && (((decide (x10.1 > 0)) || (s.kind == 6)) || (s.a == 0))) && (((x10.1 == 2) || x10.2) || (s.b == 0)))) rfl rfl (and_t hc120 rfl) (mB rfl (L_split (d:=39) (b:=(((decide (x10.1 ≥ 0)) && (((decide (x10.1 > 0)) || (s.kind == 6)) || (s.a == 0))) && (((x10.1 == 2) || x10.2) || (s.b == 0)))) rfl (fun hc148=>?_) (fun hc148=>?_)))))))
 rw [ite_t hc148] at hb26
 obtain ⟨b25,hb25,hb26⟩:=bind_some hb26
 refine fA 0 fa_75_0 rfl rfl (ldB 0 Z Tryd.isAgg3 rfl rfl rfl (L_eql rfl rfl rfl (mB rfl (L_split (d:=43) (b:=(s.kind == 7)) rfl (fun hc149=>?_) (fun hc149=>?_)))))
 rw [ite_t hc149] at hb25
 refine ps rfl (ps rfl (ps rfl (ps rfl (L_pick (v:=Bo b25) rfl rfl (congrArg Value.bool (so hb25)) (L_pick (v:=Bo b26) rfl rfl (congrArg Value.bool (so hb26)) (aB rfl (nn (rj hR27 ⟨rfl,(Star.keepN 0 Z)⟩))))))))
 rw [ite_f hc149] at hb25
 obtain ⟨x23,hx23,hb25⟩:=bind_some hb25
 refine fA 3 fa_75_3 rfl rfl (L_lda (cs:=[v0_3,I s.given.bound]) rfl Tryd.isAgg73 Tryd.sizeOf73 rfl (At.sub0 (Blk.at (Star.blkAt 0 Z rfl)) 3 2) rfl (L_bld rfl (parts0 ) (bld_73_  ) ?_))
 obtain ⟨H150b,l151,s152,z153,k154⟩:=Z.borrow
 refine L_call rfl Tryd.call99 (ops2 rfl rfl) (i_ConstraintSame_c (a:=s.given) (b:=({ terms:=[],bound:=0 } : Con)) s152 (RP.mono _ h0_3 l151) (rel_nil _ _ _) hx23) ?_
 rintro _ w155 ⟨rfl,Z⟩
 have Z:=k154 Z c0
 refine L_pick (v:=Bo b25) rfl rfl (congrArg Value.bool (so hb25)) (L_pick (v:=Bo b26) rfl rfl (congrArg Value.bool (so hb26)) (aB rfl (nn (rj hR27 ⟨rfl,(Star.keepN 0 Z)⟩))))
 rw [ite_f hc148] at hb26
 refine ps rfl (ps rfl (ps rfl (ps rfl (ps rfl (ps rfl (ps rfl (ps rfl (ps rfl (L_pick (v:=Bo b26) rfl rfl (congrArg Value.bool (so hb26)) (aB rfl (nn (rj hR27 ⟨rfl,(Star.keepN 0 Z)⟩))))))))))))
 refine ps rfl (ps rfl (ps rfl (ps rfl (ps rfl (ps rfl (ps rfl (ps rfl (ps rfl (ps rfl (L_pick (v:=Bo (((decide (x10.1 ≥ 0)) && (((decide (x10.1 > 0)) || (s.kind == 6)) || (s.a == 0))) && (((x10.1 == 2) || x10.2) || (s.b == 0)))) rfl rfl (and_f hc120) (mB rfl (L_split (d:=39) (b:=(((decide (x10.1 ≥ 0)) && (((decide (x10.1 > 0)) || (s.kind == 6)) || (s.a == 0))) && (((x10.1 == 2) || x10.2) || (s.b == 0)))) rfl (fun hc156=>?_) (fun hc156=>?_)))))))))))))
 rw [ite_t hc156] at hb26
 obtain ⟨b25,hb25,hb26⟩:=bind_some hb26
 refine fA 0 fa_75_0 rfl rfl (ldB 0 Z Tryd.isAgg3 rfl rfl rfl (L_eql rfl rfl rfl (mB rfl (L_split (d:=43) (b:=(s.kind == 7)) rfl (fun hc157=>?_) (fun hc157=>?_)))))
 rw [ite_t hc157] at hb25
 refine ps rfl (ps rfl (ps rfl (ps rfl (L_pick (v:=Bo b25) rfl rfl (congrArg Value.bool (so hb25)) (L_pick (v:=Bo b26) rfl rfl (congrArg Value.bool (so hb26)) (aB rfl (nn (rj hR27 ⟨rfl,(Star.keepN 0 Z)⟩))))))))
 rw [ite_f hc157] at hb25
 obtain ⟨x23,hx23,hb25⟩:=bind_some hb25
 refine fA 3 fa_75_3 rfl rfl (L_lda (cs:=[v0_3,I s.given.bound]) rfl Tryd.isAgg73 Tryd.sizeOf73 rfl (At.sub0 (Blk.at (Star.blkAt 0 Z rfl)) 3 2) rfl (L_bld rfl (parts0 ) (bld_73_  ) ?_))
 obtain ⟨H158b,l159,s160,z161,k162⟩:=Z.borrow
 refine L_call rfl Tryd.call99 (ops2 rfl rfl) (i_ConstraintSame_c (a:=s.given) (b:=({ terms:=[],bound:=0 } : Con)) s160 (RP.mono _ h0_3 l159) (rel_nil _ _ _) hx23) ?_
 rintro _ w163 ⟨rfl,Z⟩
 have Z:=k162 Z c0
 refine L_pick (v:=Bo b25) rfl rfl (congrArg Value.bool (so hb25)) (L_pick (v:=Bo b26) rfl rfl (congrArg Value.bool (so hb26)) (aB rfl (nn (rj hR27 ⟨rfl,(Star.keepN 0 Z)⟩))))
 rw [ite_f hc156] at hb26
 refine ps rfl (ps rfl (ps rfl (ps rfl (ps rfl (ps rfl (ps rfl (ps rfl (ps rfl (L_pick (v:=Bo b26) rfl rfl (congrArg Value.bool (so hb26)) (aB rfl (nn (rj hR27 ⟨rfl,(Star.keepN 0 Z)⟩))))))))))))
 refine fA 1 fa_75_1 rfl rfl (ldB 0 Z Tryd.isAgg3 rfl rfl rfl (L_eql rfl rfl rfl (L_pick (v:=Bo (((decide (x10.1 > 0)) || (s.kind == 6)) || (s.a == 0))) rfl rfl (or_f hc119 rfl) (L_pick (v:=Bo ((decide (x10.1 ≥ 0)) && (((decide (x10.1 > 0)) || (s.kind == 6)) || (s.a == 0)))) rfl rfl (and_t hc28 rfl) (mB rfl (L_split (d:=27) (b:=((decide (x10.1 ≥ 0)) && (((decide (x10.1 > 0)) || (s.kind == 6)) || (s.a == 0)))) rfl (fun hc164=>?_) (fun hc164=>?_)))))))
 refine mI rfl (L_eql rfl rfl rfl (mB rfl (L_split (d:=30) (b:=(x10.1 == 2)) rfl (fun hc165=>?_) (fun hc165=>?_))))
 refine ps rfl (L_pick (v:=Bo ((x10.1 == 2) || x10.2)) rfl rfl (or_t hc165) (mB rfl (L_split (d:=33) (b:=((x10.1 == 2) || x10.2)) rfl (fun hc166=>?_) (fun hc166=>?_))))
 refine ps rfl (ps rfl (ps rfl (L_pick (v:=Bo (((x10.1 == 2) || x10.2) || (s.b == 0))) rfl rfl (or_t hc166) (L_pick (v:=Bo (((decide (x10.1 ≥ 0)) && (((decide (x10.1 > 0)) || (s.kind == 6)) || (s.a == 0))) && (((x10.1 == 2) || x10.2) || (s.b == 0)))) rfl rfl (and_t hc164 rfl) (mB rfl (L_split (d:=39) (b:=(((decide (x10.1 ≥ 0)) && (((decide (x10.1 > 0)) || (s.kind == 6)) || (s.a == 0))) && (((x10.1 == 2) || x10.2) || (s.b == 0)))) rfl (fun hc167=>?_) (fun hc167=>?_)))))))
 rw [ite_t hc167] at hb26
 obtain ⟨b25,hb25,hb26⟩:=bind_some hb26
 refine fA 0 fa_75_0 rfl rfl (ldB 0 Z Tryd.isAgg3 rfl rfl rfl (L_eql rfl rfl rfl (mB rfl (L_split (d:=43) (b:=(s.kind == 7)) rfl (fun hc168=>?_) (fun hc168=>?_)))))
 rw [ite_t hc168] at hb25
 refine ps rfl (ps rfl (ps rfl (ps rfl (L_pick (v:=Bo b25) rfl rfl (congrArg Value.bool (so hb25)) (L_pick (v:=Bo b26) rfl rfl (congrArg Value.bool (so hb26)) (aB rfl (nn (rj hR27 ⟨rfl,(Star.keepN 0 Z)⟩))))))))
 rw [ite_f hc168] at hb25
 obtain ⟨x23,hx23,hb25⟩:=bind_some hb25
 refine fA 3 fa_75_3 rfl rfl (L_lda (cs:=[v0_3,I s.given.bound]) rfl Tryd.isAgg73 Tryd.sizeOf73 rfl (At.sub0 (Blk.at (Star.blkAt 0 Z rfl)) 3 2) rfl (L_bld rfl (parts0 ) (bld_73_  ) ?_))
 obtain ⟨H169b,l170,s171,z172,k173⟩:=Z.borrow
 refine L_call rfl Tryd.call99 (ops2 rfl rfl) (i_ConstraintSame_c (a:=s.given) (b:=({ terms:=[],bound:=0 } : Con)) s171 (RP.mono _ h0_3 l170) (rel_nil _ _ _) hx23) ?_
 rintro _ w174 ⟨rfl,Z⟩
 have Z:=k173 Z c0
 refine L_pick (v:=Bo b25) rfl rfl (congrArg Value.bool (so hb25)) (L_pick (v:=Bo b26) rfl rfl (congrArg Value.bool (so hb26)) (aB rfl (nn (rj hR27 ⟨rfl,(Star.keepN 0 Z)⟩))))
 rw [ite_f hc167] at hb26
 refine ps rfl (ps rfl (ps rfl (ps rfl (ps rfl (ps rfl (ps rfl (ps rfl (ps rfl (L_pick (v:=Bo b26) rfl rfl (congrArg Value.bool (so hb26)) (aB rfl (nn (rj hR27 ⟨rfl,(Star.keepN 0 Z)⟩))))))))))))
 refine fA 2 fa_75_2 rfl rfl (ldB 0 Z Tryd.isAgg3 rfl rfl rfl (L_eql rfl rfl rfl (L_pick (v:=Bo (((x10.1 == 2) || x10.2) || (s.b == 0))) rfl rfl (or_f hc166 rfl) (L_pick (v:=Bo (((decide (x10.1 ≥ 0)) && (((decide (x10.1 > 0)) || (s.kind == 6)) || (s.a == 0))) && (((x10.1 == 2) || x10.2) || (s.b == 0)))) rfl rfl (and_t hc164 rfl) (mB rfl (L_split (d:=39) (b:=(((decide (x10.1 ≥ 0)) && (((decide (x10.1 > 0)) || (s.kind == 6)) || (s.a == 0))) && (((x10.1 == 2) || x10.2) || (s.b == 0)))) rfl (fun hc175=>?_) (fun hc175=>?_)))))))
 rw [ite_t hc175] at hb26
 obtain ⟨b25,hb25,hb26⟩:=bind_some hb26
 refine fA 0 fa_75_0 rfl rfl (ldB 0 Z Tryd.isAgg3 rfl rfl rfl (L_eql rfl rfl rfl (mB rfl (L_split (d:=43) (b:=(s.kind == 7)) rfl (fun hc176=>?_) (fun hc176=>?_)))))
 rw [ite_t hc176] at hb25
 refine ps rfl (ps rfl (ps rfl (ps rfl (L_pick (v:=Bo b25) rfl rfl (congrArg Value.bool (so hb25)) (L_pick (v:=Bo b26) rfl rfl (congrArg Value.bool (so hb26)) (aB rfl (nn (rj hR27 ⟨rfl,(Star.keepN 0 Z)⟩))))))))
 rw [ite_f hc176] at hb25
 obtain ⟨x23,hx23,hb25⟩:=bind_some hb25
 refine fA 3 fa_75_3 rfl rfl (L_lda (cs:=[v0_3,I s.given.bound]) rfl Tryd.isAgg73 Tryd.sizeOf73 rfl (At.sub0 (Blk.at (Star.blkAt 0 Z rfl)) 3 2) rfl (L_bld rfl (parts0 ) (bld_73_  ) ?_))
 obtain ⟨H177b,l178,s179,z180,k181⟩:=Z.borrow
 refine L_call rfl Tryd.call99 (ops2 rfl rfl) (i_ConstraintSame_c (a:=s.given) (b:=({ terms:=[],bound:=0 } : Con)) s179 (RP.mono _ h0_3 l178) (rel_nil _ _ _) hx23) ?_
 rintro _ w182 ⟨rfl,Z⟩
 have Z:=k181 Z c0
 refine L_pick (v:=Bo b25) rfl rfl (congrArg Value.bool (so hb25)) (L_pick (v:=Bo b26) rfl rfl (congrArg Value.bool (so hb26)) (aB rfl (nn (rj hR27 ⟨rfl,(Star.keepN 0 Z)⟩))))
 rw [ite_f hc175] at hb26
 refine ps rfl (ps rfl (ps rfl (ps rfl (ps rfl (ps rfl (ps rfl (ps rfl (ps rfl (L_pick (v:=Bo b26) rfl rfl (congrArg Value.bool (so hb26)) (aB rfl (nn (rj hR27 ⟨rfl,(Star.keepN 0 Z)⟩))))))))))))
 refine mB rfl (L_pick (v:=Bo ((x10.1 == 2) || x10.2)) rfl rfl (or_f hc165 rfl) (mB rfl (L_split (d:=33) (b:=((x10.1 == 2) || x10.2)) rfl (fun hc183=>?_) (fun hc183=>?_))))
 refine ps rfl (ps rfl (ps rfl (L_pick (v:=Bo (((x10.1 == 2) || x10.2) || (s.b == 0))) rfl rfl (or_t hc183) (L_pick (v:=Bo (((decide (x10.1 ≥ 0)) && (((decide (x10.1 > 0)) || (s.kind == 6)) || (s.a == 0))) && (((x10.1 == 2) || x10.2) || (s.b == 0)))) rfl rfl (and_t hc164 rfl) (mB rfl (L_split (d:=39) (b:=(((decide (x10.1 ≥ 0)) && (((decide (x10.1 > 0)) || (s.kind == 6)) || (s.a == 0))) && (((x10.1 == 2) || x10.2) || (s.b == 0)))) rfl (fun hc184=>?_) (fun hc184=>?_)))))))
 rw [ite_t hc184] at hb26
 obtain ⟨b25,hb25,hb26⟩:=bind_some hb26
 refine fA 0 fa_75_0 rfl rfl (ldB 0 Z Tryd.isAgg3 rfl rfl rfl (L_eql rfl rfl rfl (mB rfl (L_split (d:=43) (b:=(s.kind == 7)) rfl (fun hc185=>?_) (fun hc185=>?_)))))
 rw [ite_t hc185] at hb25
 refine ps rfl (ps rfl (ps rfl (ps rfl (L_pick (v:=Bo b25) rfl rfl (congrArg Value.bool (so hb25)) (L_pick (v:=Bo b26) rfl rfl (congrArg Value.bool (so hb26)) (aB rfl (nn (rj hR27 ⟨rfl,(Star.keepN 0 Z)⟩))))))))
 rw [ite_f hc185] at hb25
 obtain ⟨x23,hx23,hb25⟩:=bind_some hb25
 refine fA 3 fa_75_3 rfl rfl (L_lda (cs:=[v0_3,I s.given.bound]) rfl Tryd.isAgg73 Tryd.sizeOf73 rfl (At.sub0 (Blk.at (Star.blkAt 0 Z rfl)) 3 2) rfl (L_bld rfl (parts0 ) (bld_73_  ) ?_))
 obtain ⟨H186b,l187,s188,z189,k190⟩:=Z.borrow
 refine L_call rfl Tryd.call99 (ops2 rfl rfl) (i_ConstraintSame_c (a:=s.given) (b:=({ terms:=[],bound:=0 } : Con)) s188 (RP.mono _ h0_3 l187) (rel_nil _ _ _) hx23) ?_
 rintro _ w191 ⟨rfl,Z⟩
 have Z:=k190 Z c0
 refine L_pick (v:=Bo b25) rfl rfl (congrArg Value.bool (so hb25)) (L_pick (v:=Bo b26) rfl rfl (congrArg Value.bool (so hb26)) (aB rfl (nn (rj hR27 ⟨rfl,(Star.keepN 0 Z)⟩))))
 rw [ite_f hc184] at hb26
 refine ps rfl (ps rfl (ps rfl (ps rfl (ps rfl (ps rfl (ps rfl (ps rfl (ps rfl (L_pick (v:=Bo b26) rfl rfl (congrArg Value.bool (so hb26)) (aB rfl (nn (rj hR27 ⟨rfl,(Star.keepN 0 Z)⟩))))))))))))
 refine fA 2 fa_75_2 rfl rfl (ldB 0 Z Tryd.isAgg3 rfl rfl rfl (L_eql rfl rfl rfl (L_pick (v:=Bo (((x10.1 == 2) || x10.2) || (s.b == 0))) rfl rfl (or_f hc183 rfl) (L_pick (v:=Bo (((decide (x10.1 ≥ 0)) && (((decide (x10.1 > 0)) || (s.kind == 6)) || (s.a == 0))) && (((x10.1 == 2) || x10.2) || (s.b == 0)))) rfl rfl (and_t hc164 rfl) (mB rfl (L_split (d:=39) (b:=(((decide (x10.1 ≥ 0)) && (((decide (x10.1 > 0)) || (s.kind == 6)) || (s.a == 0))) && (((x10.1 == 2) || x10.2) || (s.b == 0)))) rfl (fun hc192=>?_) (fun hc192=>?_)))))))
 rw [ite_t hc192] at hb26
 obtain ⟨b25,hb25,hb26⟩:=bind_some hb26
 refine fA 0 fa_75_0 rfl rfl (ldB 0 Z Tryd.isAgg3 rfl rfl rfl (L_eql rfl rfl rfl (mB rfl (L_split (d:=43) (b:=(s.kind == 7)) rfl (fun hc193=>?_) (fun hc193=>?_)))))
 rw [ite_t hc193] at hb25
 refine ps rfl (ps rfl (ps rfl (ps rfl (L_pick (v:=Bo b25) rfl rfl (congrArg Value.bool (so hb25)) (L_pick (v:=Bo b26) rfl rfl (congrArg Value.bool (so hb26)) (aB rfl (nn (rj hR27 ⟨rfl,(Star.keepN 0 Z)⟩))))))))
 rw [ite_f hc193] at hb25
 obtain ⟨x23,hx23,hb25⟩:=bind_some hb25
 refine fA 3 fa_75_3 rfl rfl (L_lda (cs:=[v0_3,I s.given.bound]) rfl Tryd.isAgg73 Tryd.sizeOf73 rfl (At.sub0 (Blk.at (Star.blkAt 0 Z rfl)) 3 2) rfl (L_bld rfl (parts0 ) (bld_73_  ) ?_))
 obtain ⟨H194b,l195,s196,z197,k198⟩:=Z.borrow
 refine L_call rfl Tryd.call99 (ops2 rfl rfl) (i_ConstraintSame_c (a:=s.given) (b:=({ terms:=[],bound:=0 } : Con)) s196 (RP.mono _ h0_3 l195) (rel_nil _ _ _) hx23) ?_
 rintro _ w199 ⟨rfl,Z⟩
 have Z:=k198 Z c0
 refine L_pick (v:=Bo b25) rfl rfl (congrArg Value.bool (so hb25)) (L_pick (v:=Bo b26) rfl rfl (congrArg Value.bool (so hb26)) (aB rfl (nn (rj hR27 ⟨rfl,(Star.keepN 0 Z)⟩))))
 rw [ite_f hc192] at hb26
 refine ps rfl (ps rfl (ps rfl (ps rfl (ps rfl (ps rfl (ps rfl (ps rfl (ps rfl (L_pick (v:=Bo b26) rfl rfl (congrArg Value.bool (so hb26)) (aB rfl (nn (rj hR27 ⟨rfl,(Star.keepN 0 Z)⟩))))))))))))
 refine ps rfl (ps rfl (ps rfl (ps rfl (ps rfl (ps rfl (ps rfl (ps rfl (ps rfl (ps rfl (L_pick (v:=Bo (((decide (x10.1 ≥ 0)) && (((decide (x10.1 > 0)) || (s.kind == 6)) || (s.a == 0))) && (((x10.1 == 2) || x10.2) || (s.b == 0)))) rfl rfl (and_f hc164) (mB rfl (L_split (d:=39) (b:=(((decide (x10.1 ≥ 0)) && (((decide (x10.1 > 0)) || (s.kind == 6)) || (s.a == 0))) && (((x10.1 == 2) || x10.2) || (s.b == 0)))) rfl (fun hc200=>?_) (fun hc200=>?_)))))))))))))
 rw [ite_t hc200] at hb26
 obtain ⟨b25,hb25,hb26⟩:=bind_some hb26
 refine fA 0 fa_75_0 rfl rfl (ldB 0 Z Tryd.isAgg3 rfl rfl rfl (L_eql rfl rfl rfl (mB rfl (L_split (d:=43) (b:=(s.kind == 7)) rfl (fun hc201=>?_) (fun hc201=>?_)))))
 rw [ite_t hc201] at hb25
 refine ps rfl (ps rfl (ps rfl (ps rfl (L_pick (v:=Bo b25) rfl rfl (congrArg Value.bool (so hb25)) (L_pick (v:=Bo b26) rfl rfl (congrArg Value.bool (so hb26)) (aB rfl (nn (rj hR27 ⟨rfl,(Star.keepN 0 Z)⟩))))))))
 rw [ite_f hc201] at hb25
 obtain ⟨x23,hx23,hb25⟩:=bind_some hb25
 refine fA 3 fa_75_3 rfl rfl (L_lda (cs:=[v0_3,I s.given.bound]) rfl Tryd.isAgg73 Tryd.sizeOf73 rfl (At.sub0 (Blk.at (Star.blkAt 0 Z rfl)) 3 2) rfl (L_bld rfl (parts0 ) (bld_73_  ) ?_))
 obtain ⟨H202b,l203,s204,z205,k206⟩:=Z.borrow
 refine L_call rfl Tryd.call99 (ops2 rfl rfl) (i_ConstraintSame_c (a:=s.given) (b:=({ terms:=[],bound:=0 } : Con)) s204 (RP.mono _ h0_3 l203) (rel_nil _ _ _) hx23) ?_
 rintro _ w207 ⟨rfl,Z⟩
 have Z:=k206 Z c0
 refine L_pick (v:=Bo b25) rfl rfl (congrArg Value.bool (so hb25)) (L_pick (v:=Bo b26) rfl rfl (congrArg Value.bool (so hb26)) (aB rfl (nn (rj hR27 ⟨rfl,(Star.keepN 0 Z)⟩))))
 rw [ite_f hc200] at hb26
 refine ps rfl (ps rfl (ps rfl (ps rfl (ps rfl (ps rfl (ps rfl (ps rfl (ps rfl (L_pick (v:=Bo b26) rfl rfl (congrArg Value.bool (so hb26)) (aB rfl (nn (rj hR27 ⟨rfl,(Star.keepN 0 Z)⟩))))))))))))
 refine ps rfl (ps rfl (ps rfl (ps rfl (ps rfl (ps rfl (ps rfl (ps rfl (ps rfl (ps rfl (ps rfl (ps rfl (L_pick (v:=Bo ((decide (x10.1 ≥ 0)) && (((decide (x10.1 > 0)) || (s.kind == 6)) || (s.a == 0)))) rfl rfl (and_f hc28) (mB rfl (L_split (d:=27) (b:=((decide (x10.1 ≥ 0)) && (((decide (x10.1 > 0)) || (s.kind == 6)) || (s.a == 0)))) rfl (fun hc208=>?_) (fun hc208=>?_)))))))))))))))
 refine mI rfl (L_eql rfl rfl rfl (mB rfl (L_split (d:=30) (b:=(x10.1 == 2)) rfl (fun hc209=>?_) (fun hc209=>?_))))
 refine ps rfl (L_pick (v:=Bo ((x10.1 == 2) || x10.2)) rfl rfl (or_t hc209) (mB rfl (L_split (d:=33) (b:=((x10.1 == 2) || x10.2)) rfl (fun hc210=>?_) (fun hc210=>?_))))
 refine ps rfl (ps rfl (ps rfl (L_pick (v:=Bo (((x10.1 == 2) || x10.2) || (s.b == 0))) rfl rfl (or_t hc210) (L_pick (v:=Bo (((decide (x10.1 ≥ 0)) && (((decide (x10.1 > 0)) || (s.kind == 6)) || (s.a == 0))) && (((x10.1 == 2) || x10.2) || (s.b == 0)))) rfl rfl (and_t hc208 rfl) (mB rfl (L_split (d:=39) (b:=(((decide (x10.1 ≥ 0)) && (((decide (x10.1 > 0)) || (s.kind == 6)) || (s.a == 0))) && (((x10.1 == 2) || x10.2) || (s.b == 0)))) rfl (fun hc211=>?_) (fun hc211=>?_)))))))
 rw [ite_t hc211] at hb26
 obtain ⟨b25,hb25,hb26⟩:=bind_some hb26
 refine fA 0 fa_75_0 rfl rfl (ldB 0 Z Tryd.isAgg3 rfl rfl rfl (L_eql rfl rfl rfl (mB rfl (L_split (d:=43) (b:=(s.kind == 7)) rfl (fun hc212=>?_) (fun hc212=>?_)))))
 rw [ite_t hc212] at hb25
 refine ps rfl (ps rfl (ps rfl (ps rfl (L_pick (v:=Bo b25) rfl rfl (congrArg Value.bool (so hb25)) (L_pick (v:=Bo b26) rfl rfl (congrArg Value.bool (so hb26)) (aB rfl (nn (rj hR27 ⟨rfl,(Star.keepN 0 Z)⟩))))))))
 rw [ite_f hc212] at hb25
 obtain ⟨x23,hx23,hb25⟩:=bind_some hb25
 refine fA 3 fa_75_3 rfl rfl (L_lda (cs:=[v0_3,I s.given.bound]) rfl Tryd.isAgg73 Tryd.sizeOf73 rfl (At.sub0 (Blk.at (Star.blkAt 0 Z rfl)) 3 2) rfl (L_bld rfl (parts0 ) (bld_73_  ) ?_))
 obtain ⟨H213b,l214,s215,z216,k217⟩:=Z.borrow
 refine L_call rfl Tryd.call99 (ops2 rfl rfl) (i_ConstraintSame_c (a:=s.given) (b:=({ terms:=[],bound:=0 } : Con)) s215 (RP.mono _ h0_3 l214) (rel_nil _ _ _) hx23) ?_
 rintro _ w218 ⟨rfl,Z⟩
 have Z:=k217 Z c0
 refine L_pick (v:=Bo b25) rfl rfl (congrArg Value.bool (so hb25)) (L_pick (v:=Bo b26) rfl rfl (congrArg Value.bool (so hb26)) (aB rfl (nn (rj hR27 ⟨rfl,(Star.keepN 0 Z)⟩))))
 rw [ite_f hc211] at hb26
 refine ps rfl (ps rfl (ps rfl (ps rfl (ps rfl (ps rfl (ps rfl (ps rfl (ps rfl (L_pick (v:=Bo b26) rfl rfl (congrArg Value.bool (so hb26)) (aB rfl (nn (rj hR27 ⟨rfl,(Star.keepN 0 Z)⟩))))))))))))
 refine fA 2 fa_75_2 rfl rfl (ldB 0 Z Tryd.isAgg3 rfl rfl rfl (L_eql rfl rfl rfl (L_pick (v:=Bo (((x10.1 == 2) || x10.2) || (s.b == 0))) rfl rfl (or_f hc210 rfl) (L_pick (v:=Bo (((decide (x10.1 ≥ 0)) && (((decide (x10.1 > 0)) || (s.kind == 6)) || (s.a == 0))) && (((x10.1 == 2) || x10.2) || (s.b == 0)))) rfl rfl (and_t hc208 rfl) (mB rfl (L_split (d:=39) (b:=(((decide (x10.1 ≥ 0)) && (((decide (x10.1 > 0)) || (s.kind == 6)) || (s.a == 0))) && (((x10.1 == 2) || x10.2) || (s.b == 0)))) rfl (fun hc219=>?_) (fun hc219=>?_)))))))
 rw [ite_t hc219] at hb26
 obtain ⟨b25,hb25,hb26⟩:=bind_some hb26
 refine fA 0 fa_75_0 rfl rfl (ldB 0 Z Tryd.isAgg3 rfl rfl rfl (L_eql rfl rfl rfl (mB rfl (L_split (d:=43) (b:=(s.kind == 7)) rfl (fun hc220=>?_) (fun hc220=>?_)))))
 rw [ite_t hc220] at hb25
 refine ps rfl (ps rfl (ps rfl (ps rfl (L_pick (v:=Bo b25) rfl rfl (congrArg Value.bool (so hb25)) (L_pick (v:=Bo b26) rfl rfl (congrArg Value.bool (so hb26)) (aB rfl (nn (rj hR27 ⟨rfl,(Star.keepN 0 Z)⟩))))))))
 rw [ite_f hc220] at hb25
 obtain ⟨x23,hx23,hb25⟩:=bind_some hb25
 refine fA 3 fa_75_3 rfl rfl (L_lda (cs:=[v0_3,I s.given.bound]) rfl Tryd.isAgg73 Tryd.sizeOf73 rfl (At.sub0 (Blk.at (Star.blkAt 0 Z rfl)) 3 2) rfl (L_bld rfl (parts0 ) (bld_73_  ) ?_))
 obtain ⟨H221b,l222,s223,z224,k225⟩:=Z.borrow
 refine L_call rfl Tryd.call99 (ops2 rfl rfl) (i_ConstraintSame_c (a:=s.given) (b:=({ terms:=[],bound:=0 } : Con)) s223 (RP.mono _ h0_3 l222) (rel_nil _ _ _) hx23) ?_
 rintro _ w226 ⟨rfl,Z⟩
 have Z:=k225 Z c0
 refine L_pick (v:=Bo b25) rfl rfl (congrArg Value.bool (so hb25)) (L_pick (v:=Bo b26) rfl rfl (congrArg Value.bool (so hb26)) (aB rfl (nn (rj hR27 ⟨rfl,(Star.keepN 0 Z)⟩))))
 rw [ite_f hc219] at hb26
 refine ps rfl (ps rfl (ps rfl (ps rfl (ps rfl (ps rfl (ps rfl (ps rfl (ps rfl (L_pick (v:=Bo b26) rfl rfl (congrArg Value.bool (so hb26)) (aB rfl (nn (rj hR27 ⟨rfl,(Star.keepN 0 Z)⟩))))))))))))
 refine mB rfl (L_pick (v:=Bo ((x10.1 == 2) || x10.2)) rfl rfl (or_f hc209 rfl) (mB rfl (L_split (d:=33) (b:=((x10.1 == 2) || x10.2)) rfl (fun hc227=>?_) (fun hc227=>?_))))
 refine ps rfl (ps rfl (ps rfl (L_pick (v:=Bo (((x10.1 == 2) || x10.2) || (s.b == 0))) rfl rfl (or_t hc227) (L_pick (v:=Bo (((decide (x10.1 ≥ 0)) && (((decide (x10.1 > 0)) || (s.kind == 6)) || (s.a == 0))) && (((x10.1 == 2) || x10.2) || (s.b == 0)))) rfl rfl (and_t hc208 rfl) (mB rfl (L_split (d:=39) (b:=(((decide (x10.1 ≥ 0)) && (((decide (x10.1 > 0)) || (s.kind == 6)) || (s.a == 0))) && (((x10.1 == 2) || x10.2) || (s.b == 0)))) rfl (fun hc228=>?_) (fun hc228=>?_)))))))
 rw [ite_t hc228] at hb26
 obtain ⟨b25,hb25,hb26⟩:=bind_some hb26
 refine fA 0 fa_75_0 rfl rfl (ldB 0 Z Tryd.isAgg3 rfl rfl rfl (L_eql rfl rfl rfl (mB rfl (L_split (d:=43) (b:=(s.kind == 7)) rfl (fun hc229=>?_) (fun hc229=>?_)))))
 rw [ite_t hc229] at hb25
 refine ps rfl (ps rfl (ps rfl (ps rfl (L_pick (v:=Bo b25) rfl rfl (congrArg Value.bool (so hb25)) (L_pick (v:=Bo b26) rfl rfl (congrArg Value.bool (so hb26)) (aB rfl (nn (rj hR27 ⟨rfl,(Star.keepN 0 Z)⟩))))))))
 rw [ite_f hc229] at hb25
 obtain ⟨x23,hx23,hb25⟩:=bind_some hb25
 refine fA 3 fa_75_3 rfl rfl (L_lda (cs:=[v0_3,I s.given.bound]) rfl Tryd.isAgg73 Tryd.sizeOf73 rfl (At.sub0 (Blk.at (Star.blkAt 0 Z rfl)) 3 2) rfl (L_bld rfl (parts0 ) (bld_73_  ) ?_))
 obtain ⟨H230b,l231,s232,z233,k234⟩:=Z.borrow
 refine L_call rfl Tryd.call99 (ops2 rfl rfl) (i_ConstraintSame_c (a:=s.given) (b:=({ terms:=[],bound:=0 } : Con)) s232 (RP.mono _ h0_3 l231) (rel_nil _ _ _) hx23) ?_
 rintro _ w235 ⟨rfl,Z⟩
 have Z:=k234 Z c0
 refine L_pick (v:=Bo b25) rfl rfl (congrArg Value.bool (so hb25)) (L_pick (v:=Bo b26) rfl rfl (congrArg Value.bool (so hb26)) (aB rfl (nn (rj hR27 ⟨rfl,(Star.keepN 0 Z)⟩))))
 rw [ite_f hc228] at hb26
 refine ps rfl (ps rfl (ps rfl (ps rfl (ps rfl (ps rfl (ps rfl (ps rfl (ps rfl (L_pick (v:=Bo b26) rfl rfl (congrArg Value.bool (so hb26)) (aB rfl (nn (rj hR27 ⟨rfl,(Star.keepN 0 Z)⟩))))))))))))
 refine fA 2 fa_75_2 rfl rfl (ldB 0 Z Tryd.isAgg3 rfl rfl rfl (L_eql rfl rfl rfl (L_pick (v:=Bo (((x10.1 == 2) || x10.2) || (s.b == 0))) rfl rfl (or_f hc227 rfl) (L_pick (v:=Bo (((decide (x10.1 ≥ 0)) && (((decide (x10.1 > 0)) || (s.kind == 6)) || (s.a == 0))) && (((x10.1 == 2) || x10.2) || (s.b == 0)))) rfl rfl (and_t hc208 rfl) (mB rfl (L_split (d:=39) (b:=(((decide (x10.1 ≥ 0)) && (((decide (x10.1 > 0)) || (s.kind == 6)) || (s.a == 0))) && (((x10.1 == 2) || x10.2) || (s.b == 0)))) rfl (fun hc236=>?_) (fun hc236=>?_)))))))
 rw [ite_t hc236] at hb26
 obtain ⟨b25,hb25,hb26⟩:=bind_some hb26
 refine fA 0 fa_75_0 rfl rfl (ldB 0 Z Tryd.isAgg3 rfl rfl rfl (L_eql rfl rfl rfl (mB rfl (L_split (d:=43) (b:=(s.kind == 7)) rfl (fun hc237=>?_) (fun hc237=>?_)))))
 rw [ite_t hc237] at hb25
 refine ps rfl (ps rfl (ps rfl (ps rfl (L_pick (v:=Bo b25) rfl rfl (congrArg Value.bool (so hb25)) (L_pick (v:=Bo b26) rfl rfl (congrArg Value.bool (so hb26)) (aB rfl (nn (rj hR27 ⟨rfl,(Star.keepN 0 Z)⟩))))))))
 rw [ite_f hc237] at hb25
 obtain ⟨x23,hx23,hb25⟩:=bind_some hb25
 refine fA 3 fa_75_3 rfl rfl (L_lda (cs:=[v0_3,I s.given.bound]) rfl Tryd.isAgg73 Tryd.sizeOf73 rfl (At.sub0 (Blk.at (Star.blkAt 0 Z rfl)) 3 2) rfl (L_bld rfl (parts0 ) (bld_73_  ) ?_))
 obtain ⟨H238b,l239,s240,z241,k242⟩:=Z.borrow
 refine L_call rfl Tryd.call99 (ops2 rfl rfl) (i_ConstraintSame_c (a:=s.given) (b:=({ terms:=[],bound:=0 } : Con)) s240 (RP.mono _ h0_3 l239) (rel_nil _ _ _) hx23) ?_
 rintro _ w243 ⟨rfl,Z⟩
 have Z:=k242 Z c0
 refine L_pick (v:=Bo b25) rfl rfl (congrArg Value.bool (so hb25)) (L_pick (v:=Bo b26) rfl rfl (congrArg Value.bool (so hb26)) (aB rfl (nn (rj hR27 ⟨rfl,(Star.keepN 0 Z)⟩))))
 rw [ite_f hc236] at hb26
 refine ps rfl (ps rfl (ps rfl (ps rfl (ps rfl (ps rfl (ps rfl (ps rfl (ps rfl (L_pick (v:=Bo b26) rfl rfl (congrArg Value.bool (so hb26)) (aB rfl (nn (rj hR27 ⟨rfl,(Star.keepN 0 Z)⟩))))))))))))
 refine ps rfl (ps rfl (ps rfl (ps rfl (ps rfl (ps rfl (ps rfl (ps rfl (ps rfl (ps rfl (L_pick (v:=Bo (((decide (x10.1 ≥ 0)) && (((decide (x10.1 > 0)) || (s.kind == 6)) || (s.a == 0))) && (((x10.1 == 2) || x10.2) || (s.b == 0)))) rfl rfl (and_f hc208) (mB rfl (L_split (d:=39) (b:=(((decide (x10.1 ≥ 0)) && (((decide (x10.1 > 0)) || (s.kind == 6)) || (s.a == 0))) && (((x10.1 == 2) || x10.2) || (s.b == 0)))) rfl (fun hc244=>?_) (fun hc244=>?_)))))))))))))
 rw [ite_t hc244] at hb26
 obtain ⟨b25,hb25,hb26⟩:=bind_some hb26
 refine fA 0 fa_75_0 rfl rfl (ldB 0 Z Tryd.isAgg3 rfl rfl rfl (L_eql rfl rfl rfl (mB rfl (L_split (d:=43) (b:=(s.kind == 7)) rfl (fun hc245=>?_) (fun hc245=>?_)))))
 rw [ite_t hc245] at hb25
 refine ps rfl (ps rfl (ps rfl (ps rfl (L_pick (v:=Bo b25) rfl rfl (congrArg Value.bool (so hb25)) (L_pick (v:=Bo b26) rfl rfl (congrArg Value.bool (so hb26)) (aB rfl (nn (rj hR27 ⟨rfl,(Star.keepN 0 Z)⟩))))))))
 rw [ite_f hc245] at hb25
 obtain ⟨x23,hx23,hb25⟩:=bind_some hb25
 refine fA 3 fa_75_3 rfl rfl (L_lda (cs:=[v0_3,I s.given.bound]) rfl Tryd.isAgg73 Tryd.sizeOf73 rfl (At.sub0 (Blk.at (Star.blkAt 0 Z rfl)) 3 2) rfl (L_bld rfl (parts0 ) (bld_73_  ) ?_))
 obtain ⟨H246b,l247,s248,z249,k250⟩:=Z.borrow
 refine L_call rfl Tryd.call99 (ops2 rfl rfl) (i_ConstraintSame_c (a:=s.given) (b:=({ terms:=[],bound:=0 } : Con)) s248 (RP.mono _ h0_3 l247) (rel_nil _ _ _) hx23) ?_
 rintro _ w251 ⟨rfl,Z⟩
 have Z:=k250 Z c0
 refine L_pick (v:=Bo b25) rfl rfl (congrArg Value.bool (so hb25)) (L_pick (v:=Bo b26) rfl rfl (congrArg Value.bool (so hb26)) (aB rfl (nn (rj hR27 ⟨rfl,(Star.keepN 0 Z)⟩))))
 rw [ite_f hc244] at hb26
 refine ps rfl (ps rfl (ps rfl (ps rfl (ps rfl (ps rfl (ps rfl (ps rfl (ps rfl (L_pick (v:=Bo b26) rfl rfl (congrArg Value.bool (so hb26)) (aB rfl (nn (rj hR27 ⟨rfl,(Star.keepN 0 Z)⟩))))))))))))
 intro f w_ hR
 obtain ⟨sf2,Z⟩:=rk hR27 hR
 refine W_ret (retG1 (v1:=Bo b26) Tryd.results71 sf2 ?_)
 obtain rfl:=so hF
 exact ⟨rfl,Z⟩
theorem i_isLiteral_c {l : Int} {H : FH} {w : World} (Z : Star H w []) {r : Bool} (hF : i_isLiteral l = some r) :
 C Tryd.prog 72 #[I l] w fun v w'=>v = Bo r∧Star H w' []:=by
 unfold i_isLiteral at hF
 refine C_enter Tryd.func72 rfl Tryd.ntmps72 rfl (sq (aB rfl (nq ?_)))
 obtain ⟨b8,hb8,hF⟩:=bind_some hF
 obtain ⟨R9,hR9⟩:=exR fun f w_=>f 2 = Bo b8∧Star H w_ ([])
 refine W_join R9 ?_ ?_
 refine W_region (mI rfl (L_neq rfl rfl rfl (mB rfl (L_split (d:=5) (b:=(l != 0)) rfl (fun hc10=>?_) (fun hc10=>?_)))))
 rw [ite_t hc10] at hb8
 obtain ⟨x6,hx6,hb8⟩:=bind_some hb8
 refine mI rfl ?_
 obtain ⟨H11b,l12,s13,z14,k15⟩:=Z.borrow
 refine L_call rfl Tryd.call51 (ops3 rfl rfl rfl) (i_within_c (n_:=l) (low:=(-12)) (high:=12) s13 hx6) ?_
 rintro _ w16 ⟨rfl,Z⟩
 have Z:=k15 Z c0
 refine L_pick (v:=Bo b8) rfl rfl (congrArg Value.bool (so hb8)) (aB rfl (nn (rj hR9 ⟨rfl,Z⟩)))
 rw [ite_f hc10] at hb8
 refine ps rfl (ps rfl (L_pick (v:=Bo b8) rfl rfl (congrArg Value.bool (so hb8)) (aB rfl (nn (rj hR9 ⟨rfl,Z⟩)))))
 intro f w_ hR
 obtain ⟨sf2,Z⟩:=rk hR9 hR
 refine W_ret (retG1 (v1:=Bo b8) Tryd.results72 sf2 ?_)
 obtain rfl:=so hF
 exact ⟨rfl,Z⟩
theorem i_variableOf_c {l : Int} {H : FH} {w : World} (Z : Star H w []) {r : Int} (hF : i_variableOf l = some r) :
 C Tryd.prog 100 #[I l] w fun v w'=>v = I r∧Star H w' []:=by
 unfold i_variableOf at hF
 refine C_enter Tryd.func100 rfl Tryd.ntmps100 rfl (sq (aI rfl (ns (mI rfl (mI rfl (L_neg rfl rfl (L_max rfl rfl rfl (aI rfl (nn (W_ret (retG1 (v1:=I (max l (i64 (-l)))) Tryd.results100 rfl ?_)))))))))))
 obtain rfl:=so hF
 exact ⟨rfl,Z⟩
theorem i_ConstraintValid_c {c : Con} {v0_0 : Value} {H : FH} {w : World} (Z : Star H w []) (h0_0 : (rS 126 rTerm).rel H [v0_0] c.terms) {r : Bool} (hF : i_ConstraintValid c = some r) :
 C Tryd.prog 73 #[.agg #[v0_0,I c.bound]] w fun v w'=>v = Bo r∧Star H w' []:=by
 unfold i_ConstraintValid at hF
 refine C_enter Tryd.func73 rfl Tryd.ntmps73 rfl (sq (L_box (v:=.agg #[v0_0,I c.bound]) (cs:=#[v0_0,I c.bound]) rfl rfl rfl Z (fun g3 w4 Z=>aB rfl (ns (aI rfl (nq (sq (fA 0 fa_73_0 rfl rfl (ldB 0 Z Tryd.isAgg71 rfl rfl rfl (L_len rfl Tryd.underlying71 rfl (slice_len h0_0) (mI rfl (nn ?_))))))))))))
 have hlen7 : List.length c.terms≤9223372036854775807:=len_le (slice_len h0_0)
 obtain ⟨j7,hL7,hF⟩:=bind_some hF
 obtain ⟨R7,hR7⟩:=exR fun f w_=>∃ before_6 : Int,j7 = .nx before_6∧f 1 = Pt g3∧Star H w_ ([box g3 73 #[v0_0,I c.bound]])
 refine W_join R7 ?_ ?_
 refine W_block ?_
 obtain ⟨I7,hI7⟩:=exI fun n f w_=>∃ i_5 : Nat,∃ suf7 : List Term,∃ before_6 : Int,n = suf7.length∧List.drop i_5 c.terms = suf7∧i_5 + suf7.length = c.terms.length∧rangeL i_ConstraintValid_b1 suf7 i_5 before_6 = some j7∧f 1 = Pt g3∧f 3 = I before_6∧f 7 = v0_0∧f 8 = I (c.terms.length : Int)∧f 9 = I i_5∧Star H w_ ([box g3 73 #[v0_0,I c.bound]])
 refine W_loop I7 (n:=c.terms.length) ?_ ?_
 exact ij hI7 ⟨0,c.terms,0,rfl,rfl,Nat.zero_add _,hL7,rfl,rfl,rfl,rfl,rfl,Z⟩
 intro n7 f w_ hI
 obtain ⟨i_5,suf7,before_6,rfl,hd7,hl7,hL7,sf1,sf3,sf7,sf8,sf9,Z⟩:=ik hI7 hI
 refine sq (L_lss rfl sf9 sf8 (nq (W_cond (b:=decide ((i_5 : Int) < (c.terms.length : Int))) rfl (fun hc8=>?_) (fun hc8=>?_))))
 have hlt7:=of_decide_eq_true hc8
 rcases suf7 with _ | ⟨x_7,rest7⟩
 exact absurd hlt7 (by simp at hl7; omega)
 obtain ⟨o7,hB7,hL7⟩:=range_cons hL7
 rw [i_ConstraintValid_b1] at hB7
 have hix7:=drop_idx hd7
 refine W_skip (W_seq (W_block (sq (L_ix (r:=rTerm) rfl Tryd.underlying71 Tryd.sizeOf126 sf7 h0_0 sf9 hix7 (fun g16 o17 cs_g16 hrk_hat18 hat18=>?_)))))
 obtain rfl:=rTerm_iff.1 hrk_hat18
 refine L_lda (cs:=[I x_7.coef,I x_7.lit]) rfl Tryd.isAgg126 Tryd.sizeOf126 rfl (At.sub (AtH.at hat18 Z.sub) 0 2) rfl (L_al (cs:=#[I 0,I 0]) rfl Tryd.zeroValue126 rfl Z (fun g20 w21 Z=>L_staB (vs:=#[I x_7.coef,I x_7.lit]) (cs2:=#[I x_7.coef,I x_7.lit]) 0 rfl Tryd.sizeOf126 rfl rfl rfl (ones_cons rfl (ones_cons rfl ones_nil)) Z rfl (by show 0 + 2≤2; decide) rfl (fun w22 Z=>nq (W_seq ?_))))
 obtain ⟨x28,hx28,hB7⟩:=bind_some hB7
 obtain ⟨b37,hb37,hB7⟩:=bind_some hB7
 obtain ⟨b45,hb45,hB7⟩:=bind_some hB7
 obtain ⟨R46,hR46⟩:=exR fun f w_=>f 1 = Pt g3∧f 5 = Pt g20∧f 7 = v0_0∧f 8 = I (c.terms.length : Int)∧f 9 = I i_5∧f 29 = Bo b45∧Star H w_ ([box g20 126 #[I x_7.coef,I x_7.lit],box g3 73 #[v0_0,I c.bound]])
 refine W_join R46 ?_ ?_
 refine W_region (fA 1 fa_126_1 rfl rfl (ldB 0 Z Tryd.isAgg3 rfl rfl rfl ?_))
 obtain ⟨H47b,l48,s49,z50,k51⟩:=Z.borrow
 refine L_call rfl Tryd.call72 (ops1 rfl) (i_isLiteral_c (l:=x_7.lit) s49 hx28) ?_
 rintro _ w52 ⟨rfl,Z⟩
 have Z:=k51 Z c0
 refine L_not_ rfl rfl (mB rfl (L_split (d:=17) (b:=(!x28)) rfl (fun hc53=>?_) (fun hc53=>?_)))
 rw [ite_t hc53] at hb37
 refine ps rfl (ps rfl (ps rfl (ps rfl (ps rfl (L_pick (v:=Bo b37) rfl rfl (congrArg Value.bool (so hb37)) (mB rfl (L_split (d:=24) (b:=b37) rfl (fun hc54=>?_) (fun hc54=>?_))))))))
 rw [ite_t hc54] at hb45
 refine ps rfl (ps rfl (ps rfl (ps rfl (L_pick (v:=Bo b45) rfl rfl (congrArg Value.bool (so hb45)) (nn (rj hR46 ⟨sf1,rfl,sf7,sf8,sf9,rfl,Z⟩))))))
 rw [ite_f hc54] at hb45
 obtain ⟨x43,hx43,hb45⟩:=bind_some hb45
 refine fA 0 fa_126_0 rfl rfl (ldB 0 Z Tryd.isAgg3 rfl rfl rfl ?_)
 obtain ⟨H55b,l56,s57,z58,k59⟩:=Z.borrow
 refine L_call rfl Tryd.call51 (ops3 rfl rfl rfl) (i_within_c (n_:=x_7.coef) (low:=1) (high:=1000) s57 hx43) ?_
 rintro _ w60 ⟨rfl,Z⟩
 have Z:=k59 Z c0
 refine L_not_ rfl rfl (L_pick (v:=Bo b45) rfl rfl (congrArg Value.bool (so hb45)) (nn (rj hR46 ⟨sf1,rfl,sf7,sf8,sf9,rfl,Z⟩)))
 rw [ite_f hc53] at hb37
 obtain ⟨x35,hx35,hb37⟩:=bind_some hb37
 refine fA 1 fa_126_1 rfl rfl (ldB 0 Z Tryd.isAgg3 rfl rfl rfl ?_)
 obtain ⟨H61b,l62,s63,z64,k65⟩:=Z.borrow
 refine L_call rfl Tryd.call100 (ops1 rfl) (i_variableOf_c (l:=x_7.lit) s63 hx35) ?_
 rintro _ w66 ⟨rfl,Z⟩
 have Z:=k65 Z c0
 refine mF sf3 rfl (L_leq rfl rfl rfl (L_pick (v:=Bo b37) rfl rfl (congrArg Value.bool (so hb37)) (mB rfl (L_split (d:=24) (b:=b37) rfl (fun hc67=>?_) (fun hc67=>?_)))))
 rw [ite_t hc67] at hb45
 refine ps rfl (ps rfl (ps rfl (ps rfl (L_pick (v:=Bo b45) rfl rfl (congrArg Value.bool (so hb45)) (nn (rj hR46 ⟨sf1,rfl,sf7,sf8,sf9,rfl,Z⟩))))))
 rw [ite_f hc67] at hb45
 obtain ⟨x43,hx43,hb45⟩:=bind_some hb45
 refine fA 0 fa_126_0 rfl rfl (ldB 0 Z Tryd.isAgg3 rfl rfl rfl ?_)
 obtain ⟨H68b,l69,s70,z71,k72⟩:=Z.borrow
 refine L_call rfl Tryd.call51 (ops3 rfl rfl rfl) (i_within_c (n_:=x_7.coef) (low:=1) (high:=1000) s70 hx43) ?_
 rintro _ w73 ⟨rfl,Z⟩
 have Z:=k72 Z c0
 refine L_not_ rfl rfl (L_pick (v:=Bo b45) rfl rfl (congrArg Value.bool (so hb45)) (nn (rj hR46 ⟨sf1,rfl,sf7,sf8,sf9,rfl,Z⟩)))
 intro f w_ hR
 obtain ⟨sf1,sf5,sf7,sf8,sf9,sf29,Z⟩:=rk hR46 hR
 refine W_cond (b:=b45) sf29 (fun hc74=>?_) (fun hc74=>?_)
 have hB7:=(ite_t hc74).symm.trans hB7
 refine sq (aB rfl (nn (W_ret (retG1 (v1:=Bo false) Tryd.results73 rfl ?_))))
 obtain rfl:=so hB7
 obtain rfl:=so hL7
 obtain rfl:=so hF
 exact ⟨rfl,(Star.keepN 0 Z)⟩
 have hB7:=(ite_f hc74).symm.trans hB7
 refine W_skip ?_
 obtain ⟨x80,hx80,hB7⟩:=bind_some hB7
 refine W_region (fA 1 fa_126_1 sf5 rfl (ldB 0 Z Tryd.isAgg3 rfl rfl rfl ?_))
 obtain ⟨H82b,l83,s84,z85,k86⟩:=Z.borrow
 refine L_call rfl Tryd.call100 (ops1 rfl) (i_variableOf_c (l:=x_7.lit) s84 hx80) ?_
 rintro _ w87 ⟨rfl,Z⟩
 have Z:=k86 Z c0
 refine aI rfl (nn (W_region (L_add rfl sf9 rfl (mI rfl (nn ?_)))))
 obtain rfl:=so hB7
 have Z:=Z.get 1 rfl
 show ∃ m,m < _∧I7 m _ _
 refine ⟨rest7.length,by simp,?_⟩
 exact ij hI7 ⟨i_5 + 1,rest7,x80,rfl,drop_next hd7,by simp at hl7; omega,hL7,sf1,rfl,sf7,sf8,(Eq.trans rfl (congrArg (Value.int .i64) (i64_succ (n:=c.terms.length) (by simp at hl7; omega) hlen7))),(Star.keepN 1 Z)⟩
 rcases suf7 with _ | ⟨_,_⟩
 obtain rfl:=range_nil hL7
 refine W_exit (rj hR7 ⟨before_6,rfl,sf1,Z⟩)
 exact absurd (of_decide_eq_false hc8) (by simp at hl7; omega)
 intro f w_ hR
 obtain ⟨before_6,rfl,sf1,Z⟩:=rk hR7 hR
 refine W_seq ?_
 obtain ⟨x93,hx93,hF⟩:=bind_some hF
 refine W_region (fA 1 fa_73_1 sf1 rfl (ldB 0 Z Tryd.isAgg3 rfl rfl rfl ?_))
 obtain ⟨H95b,l96,s97,z98,k99⟩:=Z.borrow
 refine L_call rfl Tryd.call51 (ops3 rfl rfl rfl) (i_within_c (n_:=c.bound) (low:=0) (high:=20000) s97 hx93) ?_
 rintro _ w100 ⟨rfl,Z⟩
 have Z:=k99 Z c0
 refine aB rfl (nn (W_ret (retG1 (v1:=Bo x93) Tryd.results73 rfl ?_)))
 obtain rfl:=so hF
 exact ⟨rfl,(Star.keepN 0 Z)⟩
theorem i_Step_writable_c {s : Step} {v0_3 : Value} {H : FH} {w : World} (Z : Star H w []) (h0_3 : (rS 126 rTerm).rel H [v0_3] s.given.terms) {r : Bool} (hF : i_Step_writable s = some r) :
 C Tryd.prog 42 #[.agg #[I s.kind,I s.a,I s.b,v0_3,I s.given.bound]] w fun v w'=>v = Bo r∧Star H w' []:=by
 unfold i_Step_writable at hF
 refine C_enter Tryd.func42 rfl Tryd.ntmps42 rfl (sq (L_box (v:=.agg #[I s.kind,I s.a,I s.b,v0_3,I s.given.bound]) (cs:=#[I s.kind,I s.a,I s.b,v0_3,I s.given.bound]) rfl rfl rfl Z (fun g3 w4 Z=>aB rfl (nq (W_block (W_seq ?_))))))
 obtain ⟨x10,hx10,hF⟩:=bind_some hF
 refine W_region (L_lda (cs:=[I s.kind,I s.a,I s.b,v0_3,I s.given.bound]) rfl Tryd.isAgg75 Tryd.sizeOf75 rfl (At.sub0 (Blk.at (Star.blkAt 0 Z rfl)) 0 5) rfl ?_)
 obtain ⟨H12b,l13,s14,z15,k16⟩:=Z.borrow
 refine L_call rfl Tryd.call71 (ops1 rfl) (i_Step_shaped_c (s:=s) s14 (RP.mono _ h0_3 l13) hx10) ?_
 rintro _ w17 ⟨rfl,Z⟩
 have Z:=k16 Z c0
 refine L_not_ rfl rfl (aB rfl (nn (W_cond (b:=(!x10)) rfl (fun hc18=>?_) (fun hc18=>?_))))
 have hF:=(ite_t hc18).symm.trans hF
 refine sq (aB rfl (nn (W_ret (retG1 (v1:=Bo false) Tryd.results42 rfl ?_))))
 obtain rfl:=so hF
 exact ⟨rfl,(Star.keepN 0 Z)⟩
 have hF:=(ite_f hc18).symm.trans hF
 refine sq (fA 0 fa_75_0 rfl rfl (ldB 0 Z Tryd.isAgg3 rfl rfl rfl (L_eql rfl rfl rfl (aB rfl (nn (W_cond (b:=(s.kind == 6)) rfl (fun hc19=>?_) (fun hc19=>?_)))))))
 have hF:=(ite_t hc19).symm.trans hF
 refine W_seq ?_
 obtain ⟨x25,hx25,hF⟩:=bind_some hF
 refine W_region (fA 1 fa_75_1 rfl rfl (ldB 0 Z Tryd.isAgg3 rfl rfl rfl ?_))
 obtain ⟨H27b,l28,s29,z30,k31⟩:=Z.borrow
 refine L_call rfl Tryd.call72 (ops1 rfl) (i_isLiteral_c (l:=s.a) s29 hx25) ?_
 rintro _ w32 ⟨rfl,Z⟩
 have Z:=k31 Z c0
 refine aB rfl (nn (W_ret (retG1 (v1:=Bo x25) Tryd.results42 rfl ?_)))
 obtain rfl:=so hF
 exact ⟨rfl,(Star.keepN 0 Z)⟩
 have hF:=(ite_f hc19).symm.trans hF
 refine sq (fA 0 fa_75_0 rfl rfl (ldB 0 Z Tryd.isAgg3 rfl rfl rfl (L_eql rfl rfl rfl (aB rfl (nn (W_cond (b:=(s.kind == 7)) rfl (fun hc33=>?_) (fun hc33=>?_)))))))
 have hF:=(ite_t hc33).symm.trans hF
 refine W_seq ?_
 obtain ⟨x39,hx39,hF⟩:=bind_some hF
 refine W_region (fA 3 fa_75_3 rfl rfl (L_lda (cs:=[v0_3,I s.given.bound]) rfl Tryd.isAgg73 Tryd.sizeOf73 rfl (At.sub0 (Blk.at (Star.blkAt 0 Z rfl)) 3 2) rfl ?_))
 obtain ⟨H41b,l42,s43,z44,k45⟩:=Z.borrow
 refine L_call rfl Tryd.call73 (ops1 rfl) (i_ConstraintValid_c (c:=s.given) s43 (RP.mono _ h0_3 l42) hx39) ?_
 rintro _ w46 ⟨rfl,Z⟩
 have Z:=k45 Z c0
 refine aB rfl (nn (W_ret (retG1 (v1:=Bo x39) Tryd.results42 rfl ?_)))
 obtain rfl:=so hF
 exact ⟨rfl,(Star.keepN 0 Z)⟩
 have hF:=(ite_f hc33).symm.trans hF
 refine W_skip (W_seq ?_)
 obtain ⟨x52,hx52,hF⟩:=bind_some hF
 obtain ⟨b61,hb61,hF⟩:=bind_some hF
 obtain ⟨R62,hR62⟩:=exR fun f w_=>f 2 = Bo b61∧Star H w_ ([])
 refine W_join R62 ?_ ?_
 refine W_region (fA 1 fa_75_1 rfl rfl (ldB 0 Z Tryd.isAgg3 rfl rfl rfl ?_))
 obtain ⟨H63b,l64,s65,z66,k67⟩:=Z.borrow
 refine L_call rfl Tryd.call51 (ops3 rfl rfl rfl) (i_within_c (n_:=s.a) (low:=0) (high:=20000) s65 hx52) ?_
 rintro _ w68 ⟨rfl,Z⟩
 have Z:=k67 Z c0
 refine mB rfl (L_split (d:=24) (b:=x52) rfl (fun hc69=>?_) (fun hc69=>?_))
 rw [ite_t hc69] at hb61
 obtain ⟨x59,hx59,hb61⟩:=bind_some hb61
 refine fA 2 fa_75_2 rfl rfl (ldB 0 Z Tryd.isAgg3 rfl rfl rfl ?_)
 obtain ⟨H70b,l71,s72,z73,k74⟩:=Z.borrow
 refine L_call rfl Tryd.call51 (ops3 rfl rfl rfl) (i_within_c (n_:=s.b) (low:=0) (high:=20000) s72 hx59) ?_
 rintro _ w75 ⟨rfl,Z⟩
 have Z:=k74 Z c0
 refine L_pick (v:=Bo b61) rfl rfl (congrArg Value.bool (so hb61)) (aB rfl (nn (rj hR62 ⟨rfl,(Star.keepN 0 Z)⟩)))
 rw [ite_f hc69] at hb61
 refine ps rfl (ps rfl (ps rfl (L_pick (v:=Bo b61) rfl rfl (congrArg Value.bool (so hb61)) (aB rfl (nn (rj hR62 ⟨rfl,(Star.keepN 0 Z)⟩))))))
 intro f w_ hR
 obtain ⟨sf2,Z⟩:=rk hR62 hR
 refine W_ret (retG1 (v1:=Bo b61) Tryd.results42 sf2 ?_)
 obtain rfl:=so hF
 exact ⟨rfl,Z⟩
set_option maxRecDepth 100000 in
/-- a builder that has been written: its copy check turns nothing -/
theorem check_used (b : Nat) (w : World) (h0 : w.cell? ⟨b, 0, none⟩ = some (.pointer (some ⟨b, 0, none⟩))) :
    Calls Tryd.prog 74 #[.pointer (some ⟨b, 0, none⟩)] w fun e w' => e = .returned (.tuple #[]) ∧ w' = w := by
  obtain ⟨j, hj, _⟩ := Option.map_eq_some_iff.1 (show (Tryd.prog.info? 79).map (·.size) = some 2 by kernel_rfl)
  go_enter Tryd.func74, Tryd.ntmps74
  go_wp2
  rw [Lib.run_neq_ptr_same w _ Tryd.underlying77 hj]
  go_wp2
  go_end0
  exact ⟨rfl, rfl⟩
set_option maxHeartbeats 1000000 in
set_option maxRecDepth 100000 in
/-- a new builder: its copy check stores its own address -/
theorem check_new (b : Nat) (w : World) (h0 : w.cell? ⟨b, 0, none⟩ = some (.pointer none)) (hsh : w.shape? b = some (79, 2)) (hfz : w.frozen? ⟨b, 0, none⟩ = false) :
    Calls Tryd.prog 74 #[.pointer (some ⟨b, 0, none⟩)] w fun e w' => e = .returned (.tuple #[]) ∧ w' = w.setCell ⟨b, 0, none⟩ (.pointer (some ⟨b, 0, none⟩)) := by
  obtain ⟨j, hj, hjs⟩ := Option.map_eq_some_iff.1 (show (Tryd.prog.info? 79).map (·.size) = some 2 by kernel_rfl)
  have lies : liesAt Tryd.prog Tryd.prog.depth 79 (2 / Tryd.prog.cellsOf 79) 0 79 1 = true := by kernel_rfl
  go_enter Tryd.func74, Tryd.ntmps74
  go_wp2
  rw [Lib.run_to_unsafe w ⟨b, 0, none⟩ Tryd.underlying77 Tryd.underlying128 hj (by rw [hjs]; decide) hsh (Nat.zero_lt_succ 1)]
  simp only [Result.andThen]
  rw [Oper.upon_value]
  go_wp2
  rw [run_callFunc_extern Tryd.func101 (by kernel_rfl) (by kernel_rfl) (by kernel_rfl) (e := Extern.AbiNoEscape.same) (by kernel_rfl)]
  rw [Lib.run_noEscape]
  simp only [Result.andThen]
  rw [Oper.upon_value]
  go_wp2
  rw [Lib.run_from_unsafe w ⟨b, 0, none⟩ Tryd.underlying128 Tryd.underlying77 hj hsh lies]
  simp only [Result.andThen]
  rw [Oper.upon_value]
  go_wp2
  go_end0
  exact ⟨rfl, rfl⟩
theorem check_any (B b : Nat) (l : List Value) (w : World) (h : Lib.IsBuilderF 79 5 B b l w) :
    Calls Tryd.prog 74 #[.pointer (some ⟨b, 0, none⟩)] w fun e w' => e = .returned (.tuple #[]) ∧ (Lib.BuilderAtF 79 5 B b (.pointer (some ⟨b, 0, none⟩)) l w' ∧ Below B w w') := by
  rcases h with h | h
  · refine (check_new b w h.cell0 h.shape h.frozen0).mono ?_
    rintro e w' ⟨rfl, rfl⟩
    exact ⟨rfl, h.used _, (Below.refl B w).setCell (p := ⟨b, 0, none⟩) h.1 _⟩
  · refine (check_used b w h.cell0).mono ?_
    rintro e w' ⟨rfl, rfl⟩
    exact ⟨rfl, h, Below.refl B _⟩
set_option maxHeartbeats 2000000 in
set_option maxRecDepth 100000 in
/-- a text is put behind what a builder holds -/
theorem write_any (B b : Nat) (l : List Value) (s : ByteArray) (w : World) (h : Lib.IsBuilderF 79 5 B b l w) (hlen : l.length + s.size ≤ 140737488355328) (hBw : B ≤ w.heap.size) :
    Calls Tryd.prog 43 #[.pointer (some ⟨b, 0, none⟩), .string s] w fun e w' => e = .returned (.tuple #[.int .i64 s.size, .nilIface]) ∧ (Lib.BuilderAtF 79 5 B b (.pointer (some ⟨b, 0, none⟩)) (l ++ Lib.strCells s) w' ∧ Below B w w') := by
  obtain ⟨i0, hi, hz0, hz1, hz2⟩ := info_parts (show (Tryd.prog.info? 5).map (fun i => (i.zero, i.size, i.bytes)) = some (some (.int .u8 0), 1, 1) by kernel_rfl)
  go_enter Tryd.func43, Tryd.ntmps43
  go_wp2_with (go_at_call 74; refine (check_any B b l _ h).mono ?_)
  rintro e w1 ⟨rfl, ⟨hB, v, hbk, hown, hne⟩, hb1⟩
  have c0 : w1.cell? ⟨b, 0, none⟩ = some (.pointer (some ⟨b, 0, none⟩)) := by rw [Lib.cell_of_heap hbk]; rfl
  have c1 : w1.cell? ⟨b, 1, none⟩ = some v := by rw [Lib.cell_of_heap hbk]; rfl
  go_wp2_with (at_builtin; refine Lib.wpList_append_own_stringF _ rfl _ _ 22 9 rfl B 5 i0 Tryd.underlying22 Tryd.underlying9 hi hz0 hz1 hz2 _ _ _ rfl hown s rfl ?c3 ?c4 ?c5 ?_)
  case c3 => unfold maxLen; omega
  case c4 => omega
  case c5 => have := hb1.size; omega
  intro v' w2 hown' hgrow _
  have hlt : b < w1.heap.size := (Array.getElem?_eq_some_iff.1 hbk).1
  have hb2 : w2.heap[b]? = some (.cells #[.pointer (some ⟨b, 0, none⟩), v] 79 (0, 0)) := by
    rw [hgrow.block b hlt (fun e => hne e.symm)]
    exact hbk
  have d0 : w2.cell? ⟨b, 0, none⟩ = some (.pointer (some ⟨b, 0, none⟩)) := by rw [Lib.cell_of_heap hb2]; rfl
  have d1 : w2.cell? ⟨b, 1, none⟩ = some v := by rw [Lib.cell_of_heap hb2]; rfl
  have f1 : w2.frozen? ⟨b, 1, none⟩ = false := Lib.frozen_of_heap hb2 1
  obtain ⟨ao, n', cap, rfl⟩ : ∃ ao n' cap, v' = .slice ao n' cap := by
    rcases hown'.2 with ⟨hv, _⟩ | ⟨g, cap, cur, fz, hv, _⟩
    · exact ⟨_, _, _, hv⟩
    · exact ⟨_, _, _, hv⟩
  go_wp2
  go_ret2
  refine ⟨rfl, ?_, ?_⟩
  · exact Lib.BuilderAtF.put (T := 79) (e := 5) hB hb2 (bs' := l ++ Lib.strCells s) (by simpa [Lib.strCells_length] using hown') (by decide)
  · exact (hb1.grown hgrow (by have := hb1.size; omega) (fun k hk => (hown.lt k hk).1)).setCell (p := ⟨b, 1, none⟩) hB _
theorem strings_Builder_WriteString_c {B g : Nat} {e s : ByteArray} {H : FH} {w : World} (hB : ∀ k,B≤k→H.m k = none) (Z : Star H w [bld 79 5 B g e]) {r : ByteArray} (hF : catB e s = some r) :
 C Tryd.prog 43 #[Pt g,.string s] w fun v w'=>v = .tuple #[I (s.size : Int),.nilIface]∧Star H w' [bld 79 5 B g r]:=by
 obtain ⟨hl,rfl⟩:=bld_cat hF
 obtain ⟨hb,hB2⟩:=bld_is Z
 refine Calls.mono (write_any B g _ s w hb (by rw [Go.Lib.byteCells_length,Array.length_toList]; exact hl) hB2) ?_
 rintro e w' ⟨rfl,h1,h2⟩
 exact ⟨_,rfl,rfl,bld_star hB Z h2 (.inr (bld_app h1))⟩
theorem i_stepWords_c {H : FH} {w : World} (Z : Star H w []) {r : List ByteArray} (hF : i_stepWords = some r) :
 C Tryd.prog 75 #[] w fun v w'=>∃ (u1 : Value),v = u1∧Star H w' [oF 9 RP.str u1 r]:=by
 unfold i_stepWords at hF
 refine C_enter Tryd.func75 rfl Tryd.ntmps75 rfl (sq (aV S0 rfl (ns (L_bs rfl (parts9 rfl rfl rfl rfl rfl rfl rfl rfl rfl) (bs_104_9_0_0_0_0_0_0_0_0_0 (.string (⟨#[]⟩ : ByteArray)) (.string (⟨#[97,100,100]⟩ : ByteArray)) (.string (⟨#[109,117,108,116,105,112,108,121]⟩ : ByteArray)) (.string (⟨#[100,105,118,105,100,101]⟩ : ByteArray)) (.string (⟨#[115,97,116,117,114,97,116,101]⟩ : ByteArray)) (.string (⟨#[119,101,97,107,101,110]⟩ : ByteArray)) (.string (⟨#[108,105,116,101,114,97,108]⟩ : ByteArray)) (.string (⟨#[114,117,112]⟩ : ByteArray)) (.string (⟨#[100,101,108,101,116,101]⟩ : ByteArray)) rfl rfl rfl rfl rfl rfl rfl rfl rfl) Z (fun g4 w5 Z=>?_)))))
 have Z:=Star.addF (r:=RP.str) (cs:=[.string (⟨#[100,101,108,101,116,101]⟩ : ByteArray)]) (x:=(⟨#[100,101,108,101,116,101]⟩ : ByteArray)) Z rfl
 have Z:=Star.addF (r:=RP.str) (cs:=[.string (⟨#[114,117,112]⟩ : ByteArray)]) (x:=(⟨#[114,117,112]⟩ : ByteArray)) Z rfl
 have Z:=Star.addF (r:=RP.str) (cs:=[.string (⟨#[108,105,116,101,114,97,108]⟩ : ByteArray)]) (x:=(⟨#[108,105,116,101,114,97,108]⟩ : ByteArray)) Z rfl
 have Z:=Star.addF (r:=RP.str) (cs:=[.string (⟨#[119,101,97,107,101,110]⟩ : ByteArray)]) (x:=(⟨#[119,101,97,107,101,110]⟩ : ByteArray)) Z rfl
 have Z:=Star.addF (r:=RP.str) (cs:=[.string (⟨#[115,97,116,117,114,97,116,101]⟩ : ByteArray)]) (x:=(⟨#[115,97,116,117,114,97,116,101]⟩ : ByteArray)) Z rfl
 have Z:=Star.addF (r:=RP.str) (cs:=[.string (⟨#[100,105,118,105,100,101]⟩ : ByteArray)]) (x:=(⟨#[100,105,118,105,100,101]⟩ : ByteArray)) Z rfl
 have Z:=Star.addF (r:=RP.str) (cs:=[.string (⟨#[109,117,108,116,105,112,108,121]⟩ : ByteArray)]) (x:=(⟨#[109,117,108,116,105,112,108,121]⟩ : ByteArray)) Z rfl
 have Z:=Star.addF (r:=RP.str) (cs:=[.string (⟨#[97,100,100]⟩ : ByteArray)]) (x:=(⟨#[97,100,100]⟩ : ByteArray)) Z rfl
 have Z:=Star.addF (r:=RP.str) (cs:=[.string (⟨#[]⟩ : ByteArray)]) (x:=(⟨#[]⟩ : ByteArray)) Z rfl
 have Z:=Star.mkRow (R:=(OR.frz RP.str)) [([.string (⟨#[]⟩ : ByteArray)],(⟨#[]⟩ : ByteArray)),([.string (⟨#[97,100,100]⟩ : ByteArray)],(⟨#[97,100,100]⟩ : ByteArray)),([.string (⟨#[109,117,108,116,105,112,108,121]⟩ : ByteArray)],(⟨#[109,117,108,116,105,112,108,121]⟩ : ByteArray)),([.string (⟨#[100,105,118,105,100,101]⟩ : ByteArray)],(⟨#[100,105,118,105,100,101]⟩ : ByteArray)),([.string (⟨#[115,97,116,117,114,97,116,101]⟩ : ByteArray)],(⟨#[115,97,116,117,114,97,116,101]⟩ : ByteArray)),([.string (⟨#[119,101,97,107,101,110]⟩ : ByteArray)],(⟨#[119,101,97,107,101,110]⟩ : ByteArray)),([.string (⟨#[108,105,116,101,114,97,108]⟩ : ByteArray)],(⟨#[108,105,116,101,114,97,108]⟩ : ByteArray)),([.string (⟨#[114,117,112]⟩ : ByteArray)],(⟨#[114,117,112]⟩ : ByteArray)),([.string (⟨#[100,101,108,101,116,101]⟩ : ByteArray)],(⟨#[100,101,108,101,116,101]⟩ : ByteArray))] [(⟨#[]⟩ : ByteArray),(⟨#[97,100,100]⟩ : ByteArray),(⟨#[109,117,108,116,105,112,108,121]⟩ : ByteArray),(⟨#[100,105,118,105,100,101]⟩ : ByteArray),(⟨#[115,97,116,117,114,97,116,101]⟩ : ByteArray),(⟨#[119,101,97,107,101,110]⟩ : ByteArray),(⟨#[108,105,116,101,114,97,108]⟩ : ByteArray),(⟨#[114,117,112]⟩ : ByteArray),(⟨#[100,101,108,101,116,101]⟩ : ByteArray)] 9 Z rfl rfl rfl (by decide)
 refine aV (Sl g4 9 9) rfl (nn (W_ret (retG1 (v1:=(Sl g4 9 9)) Tryd.results75 rfl ?_)))
 obtain rfl:=so hF
 exact ⟨(Sl g4 9 9),rfl,Z⟩
end Go.Proofs.YtohpkefnmkdaeaaDoor

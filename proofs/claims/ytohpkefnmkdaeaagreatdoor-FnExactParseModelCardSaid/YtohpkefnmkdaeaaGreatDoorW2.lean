/- Part of a proof by program: W2. -/
import Derived.Test.YtohpkefnmkdaeaaGreatDoorD1
import Derived.Test.YtohpkefnmkdaeaaGreatDoorW1
namespace Go.Proofs.YtohpkefnmkdaeaaGreatDoor
open Go Go.E Go.L Go.RowKit
set_option linter.unusedVariables false
set_option linter.unusedSimpArgs false
set_option maxRecDepth 100000
theorem i_readRule_c {fu : Nat} {line : ByteArray} {H : FH} {w : World} (Z : Star H w []) {r : Rule} (hF : i_readRule fu line = some r) :
 C Tryz.prog 35 #[.string line] w fun v w'=>∃ (u1 : Value) (u2 : Value) (u3 : Value),v = .agg #[I r.kind,u1,u2,I r.bound,u3]∧Star H w' [oF 3 RP.int u1 r.vars,oF 3 RP.int u2 r.coefs,own (OR.ownS 22 (OR.ownS 3 (OR.frz RP.int))) [u3] r.rows]:=by
 unfold i_readRule at hF
 refine C_enter Tryz.func35 rfl Tryz.ntmps35 rfl (sq (L_al (cs:=#[I 0,S0,S0,I 0,S0]) rfl Tryz.zeroValue49 rfl Z (fun g3 w4 Z=>nq ?_)))
 obtain ⟨x10,hx10,hF⟩:=bind_some hF
 refine W_region (mV (.string line) rfl ?_)
 obtain ⟨H13b,l14,s15,z16,k17⟩:=Z.borrow
 refine L_call rfl Tryz.call75 (ops2 rfl rfl) (strings_Split_c (x_:=line) (y_:=(⟨#[32]⟩ : ByteArray)) s15 hx10) ?_
 rintro r18_0 w18 ⟨_,rfl,Z⟩
 have Z:=k17 Z (co closed_str c0)
 refine aV r18_0 rfl (nq ?_)
 obtain ⟨x25,hx25,hF⟩:=bind_some hF
 obtain ⟨x28,hx28,hF⟩:=bind_some hF
 obtain ⟨x39,hx39,hF⟩:=bind_some hF
 obtain ⟨g52,cap_g52,hv53,_,_⟩:=Star.row 0 Z rfl hx28
 refine W_drawS 8 [anyF,isV (r18_0),isV (.pointer (some ⟨g52,Int.toNat 0 * 1,none⟩)),isV (.string x28),isV (I x39),isV (I (max 0 x39)),isV (.agg #[I (max 0 x39),S0,S0,I 0,S0]),anyF] [oF 9 RP.str r18_0 x10,box g3 49 #[I 0,S0,S0,I 0,S0]] [.made 0 10 (fun v_=>oF 9 RP.str v_ x25) none,.made 7 4 (fun v_=>boxV v_ 49 #[I 0,S0,S0,I 0,S0]) none] ([]) [([],[0]),([],[]),([],[]),([],[]),([0],[0]),([],[]),([],[]),([],[1])] (S:=[(some 0,[10],none),(some 7,[4],none)]) Tryz_mix (by kernel_rfl) rfl (by kernel_rfl) (amF_cons (mono_any) (amF_cons (mono_V _) (amF_cons (mono_V _) (amF_cons (mono_V _) (amF_cons (mono_V _) (amF_cons (mono_V _) (amF_cons (mono_V _) (amF_cons (mono_any) amF_nil)))))))) Z ?_ (fun f w_ H44 hS44 hE44 hT44 Z=>?_)
 refine opsS_cons ?_ ?_
 intro f w_ H44 X44 hS44 hE44 hP44 Z
 obtain ⟨H65b,l66,s67,z68,k69⟩:=Z.borrow
 refine L_call rfl Tryz.call78 ops0 (i_ruleWords_c s67 hx25) ?_
 rintro r70_0 w70 ⟨_,rfl,Z⟩
 have Z:=k69 Z (co closed_str c0)
 have Z:=Z.gets [2,2] rfl
 exact L_nil ⟨rfl,_,_,rfl,Le.refl _,fun _ _=>trivial,Z⟩
 refine opsS_cons (fun f w_ _ _ s _ _ Z=>mF ((s 3 rfl).trans rfl) rfl (nO rfl rfl Z)) (opsS_cons (fun f w_ _ _ _ _ p Z=>L_ixO (R:=(OR.frz RP.str)) (tb:=0) 0 rfl Tryz.underlying44 Tryz.sizeOf9 (p 1 11 rfl rfl) hv53 (by first | rfl | simp) rfl hx28 (nO rfl rfl Z)) (opsS_cons ?_ ?_))
 intro f w_ H44 X44 hS44 hE44 hP44 Z
 obtain ⟨cs72,hr72,hat72⟩:=Star.eltF 0 Z rfl hv53 hx28
 obtain rfl : _ = [_]:=hr72
 refine L_ld rfl Tryz.isAgg9 (hP44 2 12 rfl rfl) (At.cell hat72 (j:=0) rfl) (L_nil ⟨rfl,_,_,rfl,Le.refl _,fun _ _=>rfl,Z⟩)
 refine opsS_cons ?_ ?_
 intro f w_ H44 X44 hS44 hE44 hP44 Z
 have Z : Star H44 w_ (oF 9 RP.str r18_0 x10 :: box g3 49 #[I 0,S0,S0,I 0,S0] :: oF 9 RP.str (f 10) x25 :: X44):=Z
 obtain ⟨H75b,l76,s77,z78,k79⟩:=Z.borrow
 have hb80 : (rS 9 RP.str).rel H75b [(f 10)] x25:=fz_own 2 z78 rfl
 refine L_call rfl Tryz.call77 (ops2 rfl (hP44 3 13 rfl rfl)) (slices_Index_string_c (s:=x25) (v_:=x28) s77 hb80 hx39) ?_
 rintro _ w81 ⟨rfl,Z⟩
 have Z:=k79 Z c0
 exact L_nil ⟨rfl,_,_,rfl,Le.refl _,fun _ _=>rfl,Z⟩
 refine opsS_cons (fun f w_ _ _ _ _ p Z=>L_max rfl rfl (p 4 14 rfl rfl) (nO rfl rfl Z)) (opsS_cons (fun f w_ _ _ _ _ p Z=>L_bld rfl (parts1 (p 5 15 rfl rfl)) (bld_49_0 (I (max 0 x39)) rfl) (nO rfl rfl Z)) (opsS_cons ?_ ?_))
 intro f w_ H44 X44 hS44 hE44 hP44 Z
 refine L_al (cs:=#[I 0,S0,S0,I 0,S0]) rfl Tryz.zeroValue49 rfl Z (fun g82 w83 Z=>?_)
 have Z:=Z.gets [2,2,2] rfl
 have Z:=Star.boxV (v:=Pt g82) rfl Z
 have Z:=Z.gets [2,2] rfl
 exact L_nil ⟨rfl,_,_,rfl,Le.refl _,fun _ _=>trivial,Z⟩
 exact opsS_nil
 have Z : Star H44 w_ ([oF 9 RP.str r18_0 x10,box g3 49 #[I 0,S0,S0,I 0,S0],oF 9 RP.str (f 10) x25,boxV (f 4) 49 #[I 0,S0,S0,I 0,S0]]):=Z
 obtain ⟨g84,hv84,Z⟩:=Star.unboxV (Star.get 3 Z rfl)
 refine L_staB (vs:=#[I (max 0 x39),S0,S0,I 0,S0]) (cs2:=#[I (max 0 x39),S0,S0,I 0,S0]) 0 rfl Tryz.sizeOf49 hv84 (hT44 6 16 rfl rfl) rfl (ones_cons rfl (ones_cons rfl (ones_cons rfl (ones_cons rfl (ones_cons rfl ones_nil))))) Z rfl (by show 0 + 5≤5; decide) rfl (fun w85 Z=>L_nil (W_seq (sq (fA 0 fa_49_0 hv84 rfl (ldB 0 Z Tryz.isAgg3 rfl rfl rfl (L_eql rfl rfl rfl (nn (W_cond (b:=((max 0 x39) == 1)) rfl (fun hc86=>?_) (fun hc86=>?_)))))))))
 have hF:=(ite_t hc86).symm.trans hF
 refine W_seq (sq (aI rfl (nn ?_)))
 obtain ⟨j95,hL95,hF⟩:=bind_some hF
 obtain ⟨R95,hR95⟩:=exR fun f w_=>∃ i_88 : Int,∃ g84_1_89 : List Int,∃ g84_2_91 : List Int,∃ H93 : FH,∃ v89_g84_1 v91_g84_2 : Value,j95 = .nx (i_88,g84_1_89,g84_2_91)∧Le H44 H93∧f 2 = Pt g3∧f 3 = r18_0∧f 4 = Pt g84∧Star H93 w_ ([oF 9 RP.str r18_0 x10,oF 3 RP.int v89_g84_1 g84_1_89,oF 3 RP.int v91_g84_2 g84_2_91,box g84 49 #[I (max 0 x39),v89_g84_1,v91_g84_2,I 0,S0],box g3 49 #[I 0,S0,S0,I 0,S0]])
 refine W_join R95 ?_ ?_
 refine W_block ?_
 obtain ⟨I95,hI95⟩:=exI fun n f w_=>∃ i_88 : Int,∃ g84_1_89 : List Int,∃ g84_2_91 : List Int,∃ H93 : FH,∃ v89_g84_1 v91_g84_2 : Value,whileL (i_readRule_b1 x10) n (i_88,g84_1_89,g84_2_91) = some j95∧Le H44 H93∧f 2 = Pt g3∧f 3 = r18_0∧f 4 = Pt g84∧f 5 = I i_88∧Star H93 w_ ([oF 9 RP.str r18_0 x10,oF 3 RP.int v89_g84_1 g84_1_89,oF 3 RP.int v91_g84_2 g84_2_91,box g84 49 #[I (max 0 x39),v89_g84_1,v91_g84_2,I 0,S0],box g3 49 #[I 0,S0,S0,I 0,S0]])
 have Z:=Star.addNil (R:=(OR.frz RP.int)) (e:=3) Z
 have Z:=Star.addNil (R:=(OR.frz RP.int)) (e:=3) Z
 have Z:=Z.gets [4,3,2,3,4] rfl
 refine W_loop I95 (n:=fu) ?_ ?_
 exact ij hI95 ⟨1,[],[],H44,S0,S0,hL95,(Le.refl _),((hS44 2 rfl).trans rfl),((hS44 3 rfl).trans rfl),hv84,rfl,(Star.keepN 5 Z)⟩
 intro n95 f w_ hI
 obtain ⟨i_88,g84_1_89,g84_2_91,H93,v89_g84_1,v91_g84_2,hL95,l94,sf2,sf3,sf4,sf5,Z⟩:=ik hI95 hI
 rcases n95 with _ | n95
 exact (while_zero hL95).elim
 obtain ⟨o95,hB95,hL95⟩:=while_succ hL95
 rw [i_readRule_b1] at hB95
 refine W_seq (W_seq ?_)
 obtain ⟨b103,hb103,hB95⟩:=bind_some hB95
 obtain ⟨R104,hR104⟩:=exR fun f w_=>f 2 = Pt g3∧f 3 = r18_0∧f 4 = Pt g84∧f 5 = I i_88∧f 31 = Bo b103∧Star H93 w_ ([oF 9 RP.str r18_0 x10,oF 3 RP.int v89_g84_1 g84_1_89,oF 3 RP.int v91_g84_2 g84_2_91,box g84 49 #[I (max 0 x39),v89_g84_1,v91_g84_2,I 0,S0],box g3 49 #[I 0,S0,S0,I 0,S0]])
 refine W_join R104 ?_ ?_
 refine W_region (mF sf5 rfl (L_add rfl rfl rfl (mF sf3 rfl (L_len rfl Tryz.underlying44 rfl (Star.len 0 Z rfl) (L_lss rfl rfl rfl (mB rfl (L_split (d:=25) (b:=decide ((i64 (i_88 + 1)) < (x10.length : Int))) rfl (fun hc105=>?_) (fun hc105=>?_))))))))
 rw [ite_t hc105] at hb103
 obtain ⟨x98,hx98,hb103⟩:=bind_some hb103
 refine mF sf3 rfl (mF sf5 rfl ?_)
 obtain ⟨g106,cap_g106,hv107,_,_⟩:=Star.row 0 Z rfl hx98
 refine L_ixO (R:=(OR.frz RP.str)) (tb:=0) 0 rfl Tryz.underlying44 Tryz.sizeOf9 rfl hv107 (by first | rfl | simp) rfl hx98 ?_
 obtain ⟨cs108,hr108,hat108⟩:=Star.eltF 0 Z rfl hv107 hx98
 obtain rfl : _ = [_]:=hr108
 refine L_ld rfl Tryz.isAgg9 rfl (At.cell hat108 (j:=0) rfl) (L_sneq (s:=x98) (s':=(⟨#[62,61]⟩ : ByteArray)) rfl rfl rfl (L_pick (v:=Bo b103) rfl rfl (congrArg Value.bool (so hb103)) (nn (rj hR104 ⟨sf2,sf3,sf4,sf5,rfl,Z⟩))))
 rw [ite_f hc105] at hb103
 refine ps rfl (ps rfl (ps rfl (ps rfl (ps rfl (L_pick (v:=Bo b103) rfl rfl (congrArg Value.bool (so hb103)) (nn (rj hR104 ⟨sf2,sf3,sf4,sf5,rfl,Z⟩)))))))
 intro f w_ hR
 obtain ⟨sf2,sf3,sf4,sf5,sf31,Z⟩:=rk hR104 hR
 refine W_cond (b:=b103) sf31 (fun hc110=>?_) (fun hc110=>?_)
 have hB95:=(ite_t hc110).symm.trans hB95
 refine W_skip (W_seq (W_block ?_))
 obtain ⟨x111,hx111,hB95⟩:=bind_some hB95
 obtain ⟨x121,hx121,hB95⟩:=bind_some hB95
 obtain ⟨x126,hx126,hB95⟩:=bind_some hB95
 obtain ⟨x130,hx130,hB95⟩:=bind_some hB95
 obtain ⟨x138,hx138,hB95⟩:=bind_some hB95
 obtain ⟨x143,hx143,hB95⟩:=bind_some hB95
 obtain ⟨g150,cap_g150,hv151,_,_⟩:=Star.row 0 Z rfl hx111
 have Z:=Z.gets [2,2,4,4,4] rfl
 refine W_drawS 20 [isV (Pq g84 2),isV (v91_g84_2),isV (r18_0),isV (I i_88),isV (.pointer (some ⟨g150,Int.toNat i_88 * 1,none⟩)),isV (.string x111),isV (I x121),anyF,anyF,isV (Pq g84 1),isV (v89_g84_1),isV (r18_0),isV (I i_88),isV (I (i64 (i_88 + 1))),isV (.pointer (some ⟨g150,Int.toNat (i64 (i_88 + 1)) * 1,none⟩)),isV (.string x130),isV (I x138),anyF,anyF,isV (Pq g84 2)] [oF 9 RP.str r18_0 x10,box g84 49 #[I (max 0 x39),v89_g84_1,v91_g84_2,I 0,S0],box g3 49 #[I 0,S0,S0,I 0,S0]] [.base (oF 3 RP.int v89_g84_1 g84_1_89) (some 18),.base (oF 3 RP.int v91_g84_2 g84_2_91) (some 8),.made 7 41 (fun v_=>oF 3 RP.int v_ ([x121])) (some 8),.made 8 42 (fun v_=>oF 3 RP.int v_ x126) none,.made 17 51 (fun v_=>oF 3 RP.int v_ ([x138])) (some 18),.made 18 52 (fun v_=>oF 3 RP.int v_ x143) none] ([]) [([],[]),([],[]),([],[]),([],[]),([],[]),([],[]),([],[]),([],[2]),([1,2],[3]),([],[]),([],[]),([],[]),([],[]),([],[]),([],[]),([],[]),([],[]),([],[4]),([0,4],[5]),([],[])] (S:=[(none,[],some 18),(none,[],some 8),(some 7,[41],some 8),(some 8,[42],none),(some 17,[51],some 18),(some 18,[52],none)]) Tryz_mix (by kernel_rfl) rfl (by kernel_rfl) (amF_cons (mono_V _) (amF_cons (mono_V _) (amF_cons (mono_V _) (amF_cons (mono_V _) (amF_cons (mono_V _) (amF_cons (mono_V _) (amF_cons (mono_V _) (amF_cons (mono_any) (amF_cons (mono_any) (amF_cons (mono_V _) (amF_cons (mono_V _) (amF_cons (mono_V _) (amF_cons (mono_V _) (amF_cons (mono_V _) (amF_cons (mono_V _) (amF_cons (mono_V _) (amF_cons (mono_V _) (amF_cons (mono_any) (amF_cons (mono_any) (amF_cons (mono_V _) amF_nil)))))))))))))))))))) Z ?_ (fun f w_ H149 hS149 hE149 hT149 Z=>?_)
 refine opsS_cons (fun f w_ _ _ s _ _ Z=>fA 2 fa_49_2 ((s 4 rfl).trans sf4) rfl (nO rfl rfl Z)) (opsS_cons (fun f w_ _ _ _ _ p Z=>ldB 1 Z Tryz.isAgg22 (p 0 34 rfl rfl) rfl rfl (nO rfl rfl Z)) (opsS_cons (fun f w_ _ _ s _ _ Z=>mF ((s 3 rfl).trans sf3) rfl (nO rfl rfl Z)) (opsS_cons (fun f w_ _ _ s _ _ Z=>mF ((s 5 rfl).trans sf5) rfl (nO rfl rfl Z)) (opsS_cons (fun f w_ _ _ _ _ p Z=>L_ixO (R:=(OR.frz RP.str)) (tb:=0) 0 rfl Tryz.underlying44 Tryz.sizeOf9 (p 2 36 rfl rfl) hv151 (by first | rfl | simp) (p 3 37 rfl rfl) hx111 (nO rfl rfl Z)) (opsS_cons ?_ ?_)))))
 intro f w_ H149 X149 hS149 hE149 hP149 Z
 obtain ⟨cs180,hr180,hat180⟩:=Star.eltF 0 Z rfl hv151 hx111
 obtain rfl : _ = [_]:=hr180
 refine L_ld rfl Tryz.isAgg9 (hP149 4 38 rfl rfl) (At.cell hat180 (j:=0) rfl) (L_nil ⟨rfl,_,_,rfl,Le.refl _,fun _ _=>rfl,Z⟩)
 refine opsS_cons ?_ ?_
 intro f w_ H149 X149 hS149 hE149 hP149 Z
 obtain ⟨H182b,l183,s184,z185,k186⟩:=Z.borrow
 refine L_call rfl Tryz.call79 (ops1 (hP149 5 39 rfl rfl)) (i_number_c (s:=x111) s184 hx121) ?_
 rintro _ w187 ⟨rfl,Z⟩
 have Z:=k186 Z c0
 exact L_nil ⟨rfl,_,_,rfl,Le.refl _,fun _ _=>rfl,Z⟩
 refine opsS_cons ?_ ?_
 intro f w_ H149 X149 hS149 hE149 hP149 Z
 refine L_bs rfl (parts1 (hP149 6 40 rfl rfl)) (bs_22_1_0 (I x121) rfl) Z (fun g188 w189 Z=>?_)
 have Z:=Star.addF (r:=RP.int) (cs:=[I x121]) (x:=x121) Z rfl
 have Z:=Star.mkRow (R:=(OR.frz RP.int)) [([I x121],x121)] [x121] 1 Z rfl rfl rfl (by decide)
 have Z:=Z.gets [3,3,3] rfl
 exact L_nil ⟨rfl,_,_,rfl,Le.refl _,fun _ _=>trivial,Z⟩
 refine opsS_cons ?_ ?_
 intro f w_ H149 X149 hS149 hE149 hP149 Z
 have Z : Star H149 w_ (oF 9 RP.str r18_0 x10 :: box g84 49 #[I (max 0 x39),v89_g84_1,v91_g84_2,I 0,S0] :: box g3 49 #[I 0,S0,S0,I 0,S0] :: oF 3 RP.int v91_g84_2 g84_2_91 :: oF 3 RP.int (f 41) ([x121]) :: X149):=Z
 have Z:=Z.gets [4,4] rfl
 refine L_appM (v:=v91_g84_2) (u:=(f 41)) rfl et_22 (hP149 1 35 rfl rfl) rfl Z hx126 (fun v192 w193 Z=>?_)
 have Z:=Z.gets [3,3,3] rfl
 exact L_nil ⟨rfl,_,_,rfl,Le.refl _,fun _ _=>trivial,Z⟩
 refine opsS_cons (fun f w_ _ _ s _ _ Z=>fA 1 fa_49_1 ((s 4 rfl).trans sf4) rfl (nO rfl rfl Z)) (opsS_cons (fun f w_ _ _ _ _ p Z=>ldB 1 Z Tryz.isAgg22 (p 9 43 rfl rfl) rfl rfl (nO rfl rfl Z)) (opsS_cons (fun f w_ _ _ s _ _ Z=>mF ((s 3 rfl).trans sf3) rfl (nO rfl rfl Z)) (opsS_cons (fun f w_ _ _ s _ _ Z=>mF ((s 5 rfl).trans sf5) rfl (nO rfl rfl Z)) (opsS_cons (fun f w_ _ _ _ _ p Z=>L_add rfl (p 12 46 rfl rfl) rfl (nO rfl rfl Z)) (opsS_cons (fun f w_ _ _ _ _ p Z=>L_ixO (R:=(OR.frz RP.str)) (tb:=0) 0 rfl Tryz.underlying44 Tryz.sizeOf9 (p 11 45 rfl rfl) hv151 (by first | rfl | simp) (p 13 47 rfl rfl) hx130 (nO rfl rfl Z)) (opsS_cons ?_ ?_))))))
 intro f w_ H149 X149 hS149 hE149 hP149 Z
 obtain ⟨cs195,hr195,hat195⟩:=Star.eltF 0 Z rfl hv151 hx130
 obtain rfl : _ = [_]:=hr195
 refine L_ld rfl Tryz.isAgg9 (hP149 14 48 rfl rfl) (At.cell hat195 (j:=0) rfl) (L_nil ⟨rfl,_,_,rfl,Le.refl _,fun _ _=>rfl,Z⟩)
 refine opsS_cons ?_ ?_
 intro f w_ H149 X149 hS149 hE149 hP149 Z
 obtain ⟨H197b,l198,s199,z200,k201⟩:=Z.borrow
 refine L_call rfl Tryz.call79 (ops1 (hP149 15 49 rfl rfl)) (i_number_c (s:=x130) s199 hx138) ?_
 rintro _ w202 ⟨rfl,Z⟩
 have Z:=k201 Z c0
 exact L_nil ⟨rfl,_,_,rfl,Le.refl _,fun _ _=>rfl,Z⟩
 refine opsS_cons ?_ ?_
 intro f w_ H149 X149 hS149 hE149 hP149 Z
 refine L_bs rfl (parts1 (hP149 16 50 rfl rfl)) (bs_22_1_0 (I x138) rfl) Z (fun g203 w204 Z=>?_)
 have Z:=Star.addF (r:=RP.int) (cs:=[I x138]) (x:=x138) Z rfl
 have Z:=Star.mkRow (R:=(OR.frz RP.int)) [([I x138],x138)] [x138] 1 Z rfl rfl rfl (by decide)
 have Z:=Z.gets [3,3,3] rfl
 exact L_nil ⟨rfl,_,_,rfl,Le.refl _,fun _ _=>trivial,Z⟩
 refine opsS_cons ?_ ?_
 intro f w_ H149 X149 hS149 hE149 hP149 Z
 have Z : Star H149 w_ (oF 9 RP.str r18_0 x10 :: box g84 49 #[I (max 0 x39),v89_g84_1,v91_g84_2,I 0,S0] :: box g3 49 #[I 0,S0,S0,I 0,S0] :: oF 3 RP.int v89_g84_1 g84_1_89 :: oF 3 RP.int (f 51) ([x138]) :: X149):=Z
 have Z:=Z.gets [4,4] rfl
 refine L_appM (v:=v89_g84_1) (u:=(f 51)) rfl et_22 (hP149 10 44 rfl rfl) rfl Z hx143 (fun v207 w208 Z=>?_)
 have Z:=Z.gets [3,3,3] rfl
 exact L_nil ⟨rfl,_,_,rfl,Le.refl _,fun _ _=>trivial,Z⟩
 refine opsS_cons (fun f w_ _ _ s _ _ Z=>fA 2 fa_49_2 ((s 4 rfl).trans sf4) rfl (nO rfl rfl Z)) (opsS_nil)
 have Z : Star H149 w_ ([oF 9 RP.str r18_0 x10,box g84 49 #[I (max 0 x39),v89_g84_1,v91_g84_2,I 0,S0],box g3 49 #[I 0,S0,S0,I 0,S0],oF 3 RP.int (f 42) x126,oF 3 RP.int (f 52) x143]):=Z
 refine L_stB (v:=(f 42)) (cs2:=#[I (max 0 x39),v89_g84_1,(f 42),I 0,S0]) 1 rfl Tryz.sizeOf22 (hT149 19 53 rfl rfl) rfl (one_len (Star.len 3 Z rfl)) Z rfl rfl rfl (fun w212 Z=>fA 1 fa_49_1 ((hS149 4 rfl).trans sf4) rfl (L_stB (v:=(f 52)) (cs2:=#[I (max 0 x39),(f 52),(f 42),I 0,S0]) 0 rfl Tryz.sizeOf22 rfl rfl (one_len (Star.len 4 Z rfl)) Z rfl rfl rfl (fun w213 Z=>nn (W_region (mF ((hS149 5 rfl).trans sf5) rfl (L_add rfl rfl rfl (aI rfl (nn ?_))))))))
 obtain rfl:=so hB95
 have Z:=Z.gets [2,1,3,4,4] rfl
 show ∃ m,m < _∧I95 m _ _
 refine ⟨n95,Nat.lt_succ_self _,?_⟩
 exact ij hI95 ⟨i64 (i_88 + 2),x143,x126,H149,(f 52),(f 42),hL95,(Le.trans l94 hE149),((hS149 2 rfl).trans sf2),((hS149 3 rfl).trans sf3),((hS149 4 rfl).trans sf4),rfl,Z⟩
 have hB95:=(ite_f hc110).symm.trans hB95
 refine W_exit ?_
 obtain rfl:=so hB95
 obtain rfl:=so hL95
 exact rj hR95 ⟨i_88,g84_1_89,g84_2_91,H93,v89_g84_1,v91_g84_2,rfl,l94,sf2,sf3,sf4,Z⟩
 intro f w_ hR
 obtain ⟨i_88,g84_1_89,g84_2_91,H93,v89_g84_1,v91_g84_2,rfl,l94,sf2,sf3,sf4,Z⟩:=rk hR95 hR
 refine W_seq ?_
 obtain ⟨x214,hx214,hF⟩:=bind_some hF
 obtain ⟨x224,hx224,hF⟩:=bind_some hF
 refine W_region (mF sf3 rfl (mF sf3 rfl (L_len rfl Tryz.underlying44 rfl (Star.len 0 Z rfl) (L_sub rfl rfl rfl ?_))))
 obtain ⟨g227,cap_g227,hv228,_,_⟩:=Star.row 0 Z rfl hx214
 refine L_ixO (R:=(OR.frz RP.str)) (tb:=0) 0 rfl Tryz.underlying44 Tryz.sizeOf9 rfl hv228 (by first | rfl | simp) rfl hx214 ?_
 obtain ⟨cs229,hr229,hat229⟩:=Star.eltF 0 Z rfl hv228 hx214
 obtain rfl : _ = [_]:=hr229
 refine L_ld rfl Tryz.isAgg9 rfl (At.cell hat229 (j:=0) rfl) ?_
 obtain ⟨H231b,l232,s233,z234,k235⟩:=Z.borrow
 refine L_call rfl Tryz.call79 (ops1 rfl) (i_number_c (s:=x214) s233 hx224) ?_
 rintro _ w236 ⟨rfl,Z⟩
 have Z:=k235 Z c0
 refine fA 3 fa_49_3 sf4 rfl (L_stB (v:=I x224) (cs2:=#[I (max 0 x39),v89_g84_1,v91_g84_2,I x224,S0]) 3 rfl Tryz.sizeOf3 rfl rfl rfl Z rfl rfl rfl (fun w237 Z=>ns (L_lda (cs:=[I (max 0 x39),v89_g84_1,v91_g84_2,I x224,S0]) rfl Tryz.isAgg49 Tryz.sizeOf49 sf4 (At.sub0 (Blk.at (Star.blkAt 0 Z rfl)) 0 5) rfl (L_staB (vs:=#[I (max 0 x39),v89_g84_1,v91_g84_2,I x224,S0]) (cs2:=#[I (max 0 x39),v89_g84_1,v91_g84_2,I x224,S0]) 4 rfl Tryz.sizeOf49 sf2 rfl rfl (ones_cons rfl (ones_cons (one_len (Star.len 2 Z rfl)) (ones_cons (one_len (Star.len 3 Z rfl)) (ones_cons rfl (ones_cons rfl ones_nil))))) Z rfl (by show 0 + 5≤5; decide) rfl (fun w239 Z=>nn (W_ret (retG1 (v1:=.agg #[I (max 0 x39),v89_g84_1,v91_g84_2,I x224,S0]) Tryz.results35 (resV_agg Tryz.isAgg49 Tryz.sizeOf49 sf2 (Star.blkAt 0 Z rfl) rfl) ?_)))))))
 obtain rfl:=so hF
 have Z:=Star.addNil (R:=(OR.ownS 3 (OR.frz RP.int))) (e:=22) Z
 have Z:=Z.gets [5,5] rfl
 exact ⟨v89_g84_1,v91_g84_2,S0,rfl,(Star.down (Star.keepN 3 Z) (Le.trans hE44 l94) (co closed_int (co closed_int (cc (closed_own (OR.closed_ownS (OR.closed_ownS closed_int)) _ _) c0))))⟩
 have hF:=(ite_f hc86).symm.trans hF
 refine W_skip (W_seq (sq (mF ((hS44 3 rfl).trans rfl) rfl (L_len rfl Tryz.underlying44 rfl (Star.len 1 Z rfl) (L_gtr rfl rfl rfl (nn ?_))))))
 obtain ⟨⟨g84_1_241,g84_4_243⟩,hA247,hF⟩:=bind_some hF
 obtain ⟨R247,hR247⟩:=exR fun f w_=>∃ H245 : FH,∃ v241_g84_1 v243_g84_4 : Value,Le H44 H245∧f 2 = Pt g3∧f 4 = Pt g84∧Star H245 w_ ([oF 3 RP.int v241_g84_1 g84_1_241,own (OR.ownS 22 (OR.ownS 3 (OR.frz RP.int))) [v243_g84_4] g84_4_243,box g84 49 #[I (max 0 x39),v241_g84_1,S0,I 0,v243_g84_4],box g3 49 #[I 0,S0,S0,I 0,S0]])
 refine W_join R247 ?_ ?_
 refine W_cond (b:=decide ((x10.length : Int) > 1)) rfl (fun hc248=>?_) (fun hc248=>?_)
 have hA247:=(ite_t hc248).symm.trans hA247
 refine W_seq ?_
 obtain ⟨x249,hx249,hA247⟩:=bind_some hA247
 obtain ⟨x257,hx257,hA247⟩:=bind_some hA247
 refine W_region (mF ((hS44 3 rfl).trans rfl) rfl (L_ixO (R:=(OR.frz RP.str)) (tb:=0) 0 rfl Tryz.underlying44 Tryz.sizeOf9 rfl hv53 (by first | rfl | simp) rfl hx249 ?_))
 obtain ⟨cs261,hr261,hat261⟩:=Star.eltF 1 Z rfl hv53 hx249
 obtain rfl : _ = [_]:=hr261
 refine L_ld rfl Tryz.isAgg9 rfl (At.cell hat261 (j:=0) rfl) ?_
 obtain ⟨H263b,l264,s265,z266,k267⟩:=Z.borrow
 refine L_call rfl Tryz.call34 (ops1 rfl) (i_readDigits_c (s:=x249) s265 hx257) ?_
 rintro r268_0 w268 ⟨_,rfl,Z⟩
 have Z:=k267 Z (co closed_int c0)
 refine fA 1 fa_49_1 hv84 rfl (L_stB (v:=r268_0) (cs2:=#[I (max 0 x39),r268_0,S0,I 0,S0]) 1 rfl Tryz.sizeOf22 rfl rfl (one_len (Star.len 0 Z rfl)) Z rfl rfl rfl (fun w270 Z=>nq ?_))
 obtain ⟨x271,hx271,hA247⟩:=bind_some hA247
 refine W_region (mF ((hS44 3 rfl).trans rfl) rfl ?_)
 have Z:=Z.get 2 rfl
 obtain ⟨H278,l279,Z,hz280⟩:=Star.freeze Z
 have hz280 : (rS 9 RP.str).rel H278 [r18_0] x10:=hz280
 refine L_sl (a:=2) (b:=(x10.length : Int)) rfl et_44 rfl hz280 rfl rfl hx271 (fun v277 hs281=>L_len rfl Tryz.underlying44 rfl (slice_len hs281) (mI rfl (nn ?_)))
 have hlen287 : List.length x271≤9223372036854775807:=len_le (slice_len hs281)
 obtain ⟨j287,hL287,hA247⟩:=bind_some hA247
 obtain ⟨R287,hR287⟩:=exR fun f w_=>∃ g84_4_283 : List (List Int),∃ H285 : FH,∃ v283_g84_4 : Value,j287 = .nx g84_4_283∧Le H278 H285∧f 2 = Pt g3∧f 4 = Pt g84∧Star H285 w_ ([oF 3 RP.int r268_0 x257,own (OR.ownS 22 (OR.ownS 3 (OR.frz RP.int))) [v283_g84_4] g84_4_283,box g84 49 #[I (max 0 x39),r268_0,S0,I 0,v283_g84_4],box g3 49 #[I 0,S0,S0,I 0,S0]])
 refine W_join R287 ?_ ?_
 refine W_block ?_
 obtain ⟨I287,hI287⟩:=exI fun n f w_=>∃ i_282 : Nat,∃ suf287 : List ByteArray,∃ g84_4_283 : List (List Int),∃ H285 : FH,∃ v283_g84_4 : Value,n = suf287.length∧List.drop i_282 x271 = suf287∧i_282 + suf287.length = x271.length∧rangeL i_readRule_b2 suf287 i_282 g84_4_283 = some j287∧Le H278 H285∧f 2 = Pt g3∧f 4 = Pt g84∧f 73 = v277∧f 74 = I (x271.length : Int)∧f 75 = I i_282∧Star H285 w_ ([oF 3 RP.int r268_0 x257,own (OR.ownS 22 (OR.ownS 3 (OR.frz RP.int))) [v283_g84_4] g84_4_283,box g84 49 #[I (max 0 x39),r268_0,S0,I 0,v283_g84_4],box g3 49 #[I 0,S0,S0,I 0,S0]])
 have Z:=Star.addNil (R:=(OR.ownS 3 (OR.frz RP.int))) (e:=22) Z
 have Z:=Z.gets [3,2,2,3] rfl
 refine W_loop I287 (n:=x271.length) ?_ ?_
 exact ij hI287 ⟨0,x271,[],H278,S0,rfl,rfl,Nat.zero_add _,hL287,(Le.refl _),((hS44 2 rfl).trans rfl),hv84,rfl,rfl,rfl,(Star.keepN 4 Z)⟩
 intro n287 f w_ hI
 obtain ⟨i_282,suf287,g84_4_283,H285,v283_g84_4,rfl,hd287,hl287,hL287,l286,sf2,sf4,sf73,sf74,sf75,Z⟩:=ik hI287 hI
 refine sq (L_lss rfl sf75 sf74 (nq (W_cond (b:=decide ((i_282 : Int) < (x271.length : Int))) rfl (fun hc289=>?_) (fun hc289=>?_))))
 have hlt287:=of_decide_eq_true hc289
 rcases suf287 with _ | ⟨x_287,rest287⟩
 exact absurd hlt287 (by simp at hl287; omega)
 obtain ⟨o287,hB287,hL287⟩:=range_cons hL287
 rw [i_readRule_b2] at hB287
 have hix287:=drop_idx hd287
 refine W_skip (W_seq (W_block (sq (L_ix (r:=RP.str) rfl Tryz.underlying44 Tryz.sizeOf9 sf73 (RP.mono _ hs281 l286) sf75 hix287 (fun g294 o295 cs_g294 hrk_hat296 hat296=>?_)))))
 obtain rfl : _ = [_]:=hrk_hat296
 refine L_ld rfl Tryz.isAgg9 rfl (At.cell (AtH.at hat296 Z.sub) (j:=0) rfl) (aV (.string x_287) rfl (nn ?_))
 obtain ⟨x303,hx303,hB287⟩:=bind_some hB287
 obtain ⟨x309,hx309,hB287⟩:=bind_some hB287
 refine W_drawS 5 [isV (Pq g84 4),isV (v283_g84_4),isV (.string x_287),anyF,anyF] [oF 3 RP.int r268_0 x257,own (OR.ownS 22 (OR.ownS 3 (OR.frz RP.int))) [v283_g84_4] g84_4_283,box g84 49 #[I (max 0 x39),r268_0,S0,I 0,v283_g84_4],box g3 49 #[I 0,S0,S0,I 0,S0]] [.made 3 82 (fun v_=>oF 3 RP.int v_ x303) (some 4),.made 4 83 (fun v_=>own (OR.ownS 22 (OR.ownS 3 (OR.frz RP.int))) [v_] ([x303])) none] ([]) [([],[]),([],[]),([],[]),([],[0]),([0],[1])] (S:=[(some 3,[82],some 4),(some 4,[83],none)]) Tryz_mix (by kernel_rfl) rfl (by kernel_rfl) (amF_cons (mono_V _) (amF_cons (mono_V _) (amF_cons (mono_V _) (amF_cons (mono_any) (amF_cons (mono_any) amF_nil))))) Z ?_ (fun f w_ H314 hS314 hE314 hT314 Z=>?_)
 refine opsS_cons (fun f w_ _ _ s _ _ Z=>fA 4 fa_49_4 ((s 4 rfl).trans sf4) rfl (nO rfl rfl Z)) (opsS_cons (fun f w_ _ _ _ _ p Z=>ldB 2 Z Tryz.isAgg47 (p 0 79 rfl rfl) rfl rfl (nO rfl rfl Z)) (opsS_cons (fun f w_ _ _ s _ _ Z=>mF ((s 7 rfl).trans rfl) rfl (nO rfl rfl Z)) (opsS_cons ?_ ?_)))
 intro f w_ H314 X314 hS314 hE314 hP314 Z
 obtain ⟨H325b,l326,s327,z328,k329⟩:=Z.borrow
 refine L_call rfl Tryz.call34 (ops1 (hP314 2 81 rfl rfl)) (i_readDigits_c (s:=x_287) s327 hx303) ?_
 rintro r330_0 w330 ⟨_,rfl,Z⟩
 have Z:=k329 Z (co closed_int c0)
 have Z:=Z.gets [4,4,4,4] rfl
 exact L_nil ⟨rfl,_,_,rfl,Le.refl _,fun _ _=>trivial,Z⟩
 refine opsS_cons ?_ ?_
 intro f w_ H314 X314 hS314 hE314 hP314 Z
 have Z : Star H314 w_ (oF 3 RP.int r268_0 x257 :: own (OR.ownS 22 (OR.ownS 3 (OR.frz RP.int))) [v283_g84_4] g84_4_283 :: box g84 49 #[I (max 0 x39),r268_0,S0,I 0,v283_g84_4] :: box g3 49 #[I 0,S0,S0,I 0,S0] :: oF 3 RP.int (f 82) x303 :: X314):=Z
 refine L_bs rfl (parts1 rfl) (bs_47_1_0 ((f 82)) (one_len (Star.len 4 Z rfl))) Z (fun g333 w334 Z=>?_)
 have Z:=Z.get 5 rfl
 have Z:=Star.mkRow (R:=(OR.ownS 3 (OR.frz RP.int))) [([(f 82)],x303)] [x303] 1 Z rfl rfl rfl (by decide)
 have Z:=Z.gets [4,4,4,4] rfl
 exact L_nil ⟨rfl,_,_,rfl,Le.refl _,fun _ _=>trivial,Z⟩
 exact opsS_nil
 have Z : Star H314 w_ ([oF 3 RP.int r268_0 x257,own (OR.ownS 22 (OR.ownS 3 (OR.frz RP.int))) [v283_g84_4] g84_4_283,box g84 49 #[I (max 0 x39),r268_0,S0,I 0,v283_g84_4],box g3 49 #[I 0,S0,S0,I 0,S0],own (OR.ownS 22 (OR.ownS 3 (OR.frz RP.int))) [(f 83)] ([x303])]):=Z
 have Z:=Z.gets [4,2] rfl
 refine L_appM (v:=v283_g84_4) (u:=(f 83)) rfl et_47 (hT314 1 80 rfl rfl) rfl Z hx309 (fun v337 w338 Z=>fA 4 fa_49_4 ((hS314 4 rfl).trans sf4) rfl (L_stB (v:=v337) (cs2:=#[I (max 0 x39),r268_0,S0,I 0,v337]) 2 rfl Tryz.sizeOf47 rfl rfl (one_len (Star.len 0 Z rfl)) Z rfl rfl rfl (fun w340 Z=>nn (W_region (L_add rfl ((hS314 75 rfl).trans sf75) rfl (mI rfl (nn ?_)))))))
 obtain rfl:=so hB287
 have Z:=Z.gets [3,1,2,3] rfl
 show ∃ m,m < _∧I287 m _ _
 refine ⟨rest287.length,by simp,?_⟩
 exact ij hI287 ⟨i_282 + 1,rest287,x309,H314,v337,rfl,drop_next hd287,by simp at hl287; omega,hL287,(Le.trans l286 hE314),((hS314 2 rfl).trans sf2),((hS314 4 rfl).trans sf4),((hS314 73 rfl).trans sf73),((hS314 74 rfl).trans sf74),(Eq.trans rfl (congrArg (Value.int .i64) (i64_succ (n:=x271.length) (by simp at hl287; omega) hlen287))),Z⟩
 rcases suf287 with _ | ⟨_,_⟩
 obtain rfl:=range_nil hL287
 refine W_exit (rj hR287 ⟨g84_4_283,H285,v283_g84_4,rfl,l286,sf2,sf4,Z⟩)
 exact absurd (of_decide_eq_false hc289) (by simp at hl287; omega)
 intro f w_ hR
 obtain ⟨g84_4_283,H285,v283_g84_4,rfl,l286,sf2,sf4,Z⟩:=rk hR287 hR
 obtain ⟨rfl,rfl⟩:=so2 hA247
 exact rj hR247 ⟨H285,r268_0,v283_g84_4,(Le.trans l279 l286),sf2,sf4,Z⟩
 have hA247:=(ite_f hc248).symm.trans hA247
 refine W_skip ?_
 obtain ⟨rfl,rfl⟩:=so2 hA247
 have Z:=Star.addNil (R:=(OR.frz RP.int)) (e:=3) Z
 have Z:=Star.addNil (R:=(OR.ownS 3 (OR.frz RP.int))) (e:=22) Z
 have Z:=Z.gets [4,3,2,3] rfl
 exact rj hR247 ⟨H44,S0,S0,(Le.refl _),((hS44 2 rfl).trans rfl),hv84,(Star.keepN 4 Z)⟩
 intro f w_ hR
 obtain ⟨H245,v241_g84_1,v243_g84_4,l246,sf2,sf4,Z⟩:=rk hR247 hR
 refine sq (L_lda (cs:=[I (max 0 x39),v241_g84_1,S0,I 0,v243_g84_4]) rfl Tryz.isAgg49 Tryz.sizeOf49 sf4 (At.sub0 (Blk.at (Star.blkAt 2 Z rfl)) 0 5) rfl (L_staB (vs:=#[I (max 0 x39),v241_g84_1,S0,I 0,v243_g84_4]) (cs2:=#[I (max 0 x39),v241_g84_1,S0,I 0,v243_g84_4]) 3 rfl Tryz.sizeOf49 sf2 rfl rfl (ones_cons rfl (ones_cons (one_len (Star.len 0 Z rfl)) (ones_cons rfl (ones_cons rfl (ones_cons (one_len (Star.len 1 Z rfl)) ones_nil))))) Z rfl (by show 0 + 5≤5; decide) rfl (fun w344 Z=>nn (W_ret (retG1 (v1:=.agg #[I (max 0 x39),v241_g84_1,S0,I 0,v243_g84_4]) Tryz.results35 (resV_agg Tryz.isAgg49 Tryz.sizeOf49 sf2 (Star.blkAt 0 Z rfl) rfl) ?_)))))
 obtain rfl:=so hF
 have Z:=Star.addNil (R:=(OR.frz RP.int)) (e:=3) Z
 have Z:=Z.gets [3,1,3] rfl
 exact ⟨v241_g84_1,S0,v243_g84_4,rfl,(Star.down (Star.keepN 3 Z) (Le.trans hE44 l246) (co closed_int (co closed_int (cc (closed_own (OR.closed_ownS (OR.closed_ownS closed_int)) _ _) c0))))⟩
theorem i_digits_c {list : List Int} {v0 : Value} {H : FH} {w : World} (Z : Star H w []) (h0 : (rS 3 RP.int).rel H [v0] list) {r : ByteArray} (hF : i_digits list = some r) :
 C Tryz.prog 80 #[v0] w fun v w'=>v = .string r∧Star H w' []:=by
 unfold i_digits at hF
 refine C_enter Tryz.func80 rfl Tryz.ntmps80 rfl (sq (aV (.string (⟨#[]⟩ : ByteArray)) rfl (ns (aV (.string (⟨#[]⟩ : ByteArray)) rfl (nq (sq (mV v0 rfl (L_len rfl Tryz.underlying22 rfl (slice_len h0) (mI rfl (nn ?_))))))))))
 have hlen3 : List.length list≤9223372036854775807:=len_le (slice_len h0)
 obtain ⟨j3,hL3,hF⟩:=bind_some hF
 obtain ⟨R3,hR3⟩:=exR fun f w_=>∃ out_2 : ByteArray,j3 = .nx out_2∧f 3 = .string out_2∧Star H w_ ([])
 refine W_join R3 ?_ ?_
 refine W_block ?_
 obtain ⟨I3,hI3⟩:=exI fun n f w_=>∃ i_1 : Nat,∃ suf3 : List Int,∃ out_2 : ByteArray,n = suf3.length∧List.drop i_1 list = suf3∧i_1 + suf3.length = list.length∧rangeL i_digits_b1 suf3 i_1 out_2 = some j3∧f 3 = .string out_2∧f 6 = v0∧f 7 = I (list.length : Int)∧f 8 = I i_1∧Star H w_ ([])
 refine W_loop I3 (n:=list.length) ?_ ?_
 exact ij hI3 ⟨0,list,(⟨#[]⟩ : ByteArray),rfl,rfl,Nat.zero_add _,hL3,rfl,rfl,rfl,rfl,Z⟩
 intro n3 f w_ hI
 obtain ⟨i_1,suf3,out_2,rfl,hd3,hl3,hL3,sf3,sf6,sf7,sf8,Z⟩:=ik hI3 hI
 refine sq (L_lss rfl sf8 sf7 (nq (W_cond (b:=decide ((i_1 : Int) < (list.length : Int))) rfl (fun hc4=>?_) (fun hc4=>?_))))
 have hlt3:=of_decide_eq_true hc4
 rcases suf3 with _ | ⟨x_3,rest3⟩
 exact absurd hlt3 (by simp at hl3; omega)
 obtain ⟨o3,hB3,hL3⟩:=range_cons hL3
 rw [i_digits_b1] at hB3
 have hix3:=drop_idx hd3
 refine W_skip (W_seq (W_block (sq (L_ix (r:=RP.int) rfl Tryz.underlying22 Tryz.sizeOf3 sf6 h0 sf8 hix3 (fun g9 o10 cs_g9 hrk_hat11 hat11=>?_)))))
 obtain rfl : _ = [_]:=hrk_hat11
 refine L_ld rfl Tryz.isAgg3 rfl (At.cell (AtH.at hat11 Z.sub) (j:=0) rfl) (aI rfl (nn ?_))
 obtain ⟨x18,hx18,hB3⟩:=bind_some hB3
 obtain ⟨x20,hx20,hB3⟩:=bind_some hB3
 refine W_region (mF sf3 rfl (mI rfl ?_))
 obtain ⟨H21b,l22,s23,z24,k25⟩:=Z.borrow
 refine L_call rfl Tryz.call121 (ops1 rfl) (strconv_Itoa_c (x_:=x_3) s23 hx18) ?_
 rintro _ w26 ⟨rfl,Z⟩
 have Z:=k25 Z c0
 obtain ⟨hx20_l,hx20_e⟩:=cat_some hx20
 refine L_sadd (s:=out_2) (s':=x18) rfl rfl rfl hx20_l ?_
 rw [← hx20_e]
 refine aV (.string x20) rfl (nn (W_region (L_add rfl sf8 rfl (mI rfl (nn ?_)))))
 obtain rfl:=so hB3
 show ∃ m,m < _∧I3 m _ _
 refine ⟨rest3.length,by simp,?_⟩
 exact ij hI3 ⟨i_1 + 1,rest3,x20,rfl,drop_next hd3,by simp at hl3; omega,hL3,rfl,sf6,sf7,(Eq.trans rfl (congrArg (Value.int .i64) (i64_succ (n:=list.length) (by simp at hl3; omega) hlen3))),Z⟩
 rcases suf3 with _ | ⟨_,_⟩
 obtain rfl:=range_nil hL3
 refine W_exit (rj hR3 ⟨out_2,rfl,sf3,Z⟩)
 exact absurd (of_decide_eq_false hc4) (by simp at hl3; omega)
 intro f w_ hR
 obtain ⟨out_2,rfl,sf3,Z⟩:=rk hR3 hR
 refine sq (mF sf3 rfl (aV (.string out_2) rfl (nn (W_ret (retG1 (v1:=.string out_2) Tryz.results80 rfl ?_)))))
 obtain rfl:=so hF
 exact ⟨rfl,Z⟩
theorem i_Rule_text_c {r_ : Rule} {v0_1 : Value} {v0_2 : Value} {v0_4 : Value} {H : FH} {w : World} (Z : Star H w []) (h0_1 : (rS 3 RP.int).rel H [v0_1] r_.vars) (h0_2 : (rS 3 RP.int).rel H [v0_2] r_.coefs) (h0_4 : (rS 22 (rS 3 RP.int)).rel H [v0_4] r_.rows) {r : ByteArray} (hF : i_Rule_text r_ = some r) :
 C Tryz.prog 81 #[.agg #[I r_.kind,v0_1,v0_2,I r_.bound,v0_4]] w fun v w'=>v = .string r∧Star H w' []:=by
 unfold i_Rule_text at hF
 refine C_enter Tryz.func81 rfl Tryz.ntmps81 rfl (sq (L_box (v:=.agg #[I r_.kind,v0_1,v0_2,I r_.bound,v0_4]) (cs:=#[I r_.kind,v0_1,v0_2,I r_.bound,v0_4]) rfl rfl rfl Z (fun g3 w4 Z=>aV (.string (⟨#[]⟩ : ByteArray)) rfl (nq ?_))))
 obtain ⟨x10,hx10,hF⟩:=bind_some hF
 obtain ⟨x13,hx13,hF⟩:=bind_some hF
 refine W_drawS 3 [anyF,isV (Pt g3),isV (I r_.kind)] [box g3 49 #[I r_.kind,v0_1,v0_2,I r_.bound,v0_4]] [.made 0 8 (fun v_=>oF 9 RP.str v_ x10) none] ([]) [([],[0]),([],[]),([],[])] (S:=[(some 0,[8],none)]) Tryz_mix (by kernel_rfl) rfl (by kernel_rfl) (amF_cons (mono_any) (amF_cons (mono_V _) (amF_cons (mono_V _) amF_nil))) Z ?_ (fun f w_ H18 hS18 hE18 hT18 Z=>?_)
 refine opsS_cons ?_ ?_
 intro f w_ H18 X18 hS18 hE18 hP18 Z
 obtain ⟨H26b,l27,s28,z29,k30⟩:=Z.borrow
 refine L_call rfl Tryz.call78 ops0 (i_ruleWords_c s28 hx10) ?_
 rintro r31_0 w31 ⟨_,rfl,Z⟩
 have Z:=k30 Z (co closed_str c0)
 have Z:=Z.get 1 rfl
 exact L_nil ⟨rfl,_,_,rfl,Le.refl _,fun _ _=>trivial,Z⟩
 refine opsS_cons (fun f w_ _ _ s _ _ Z=>fA 0 fa_49_0 ((s 1 rfl).trans rfl) rfl (nO rfl rfl Z)) (opsS_cons (fun f w_ _ _ _ _ p Z=>ldB 0 Z Tryz.isAgg3 (p 1 9 rfl rfl) rfl rfl (nO rfl rfl Z)) (opsS_nil))
 have Z : Star H18 w_ ([box g3 49 #[I r_.kind,v0_1,v0_2,I r_.bound,v0_4],oF 9 RP.str (f 8) x10]):=Z
 obtain ⟨g34,cap_g34,hv35,_,_⟩:=Star.row 1 Z rfl hx13
 refine L_ixO (R:=(OR.frz RP.str)) (tb:=0) 0 rfl Tryz.underlying44 Tryz.sizeOf9 rfl hv35 (by first | rfl | simp) (hT18 2 10 rfl rfl) hx13 ?_
 obtain ⟨cs36,hr36,hat36⟩:=Star.eltF 1 Z rfl hv35 hx13
 obtain rfl : _ = [_]:=hr36
 refine L_ld rfl Tryz.isAgg9 rfl (At.cell hat36 (j:=0) rfl) (aV (.string x13) rfl (nq (sq (fA 0 fa_49_0 ((hS18 1 rfl).trans rfl) rfl (ldB 0 Z Tryz.isAgg3 rfl rfl rfl (L_eql rfl rfl rfl (nn (W_cond (b:=(r_.kind == 1)) rfl (fun hc38=>?_) (fun hc38=>?_)))))))))
 have hF:=(ite_t hc38).symm.trans hF
 refine W_seq (sq (fA 1 fa_49_1 ((hS18 1 rfl).trans rfl) rfl (ldB 0 Z Tryz.isAgg22 rfl rfl rfl (L_len rfl Tryz.underlying22 rfl (slice_len (RP.mono _ h0_1 hE18)) (mI rfl (nn ?_))))))
 have hlen41 : List.length r_.vars≤9223372036854775807:=len_le (slice_len (RP.mono _ h0_1 hE18))
 obtain ⟨j41,hL41,hF⟩:=bind_some hF
 obtain ⟨R41,hR41⟩:=exR fun f w_=>∃ out_40 : ByteArray,j41 = .nx out_40∧f 1 = Pt g3∧f 3 = .string out_40∧Star H18 w_ ([box g3 49 #[I r_.kind,v0_1,v0_2,I r_.bound,v0_4]])
 refine W_join R41 ?_ ?_
 refine W_block ?_
 obtain ⟨I41,hI41⟩:=exI fun n f w_=>∃ i_39 : Nat,∃ suf41 : List Int,∃ out_40 : ByteArray,n = suf41.length∧List.drop i_39 r_.vars = suf41∧i_39 + suf41.length = r_.vars.length∧rangeL (i_Rule_text_b1 r_) suf41 i_39 out_40 = some j41∧f 1 = Pt g3∧f 3 = .string out_40∧f 17 = v0_1∧f 18 = I (r_.vars.length : Int)∧f 19 = I i_39∧Star H18 w_ ([box g3 49 #[I r_.kind,v0_1,v0_2,I r_.bound,v0_4]])
 refine W_loop I41 (n:=r_.vars.length) ?_ ?_
 exact ij hI41 ⟨0,r_.vars,x13,rfl,rfl,Nat.zero_add _,hL41,((hS18 1 rfl).trans rfl),rfl,rfl,rfl,rfl,(Star.keepN 1 Z)⟩
 intro n41 f w_ hI
 obtain ⟨i_39,suf41,out_40,rfl,hd41,hl41,hL41,sf1,sf3,sf17,sf18,sf19,Z⟩:=ik hI41 hI
 refine sq (L_lss rfl sf19 sf18 (nq (W_cond (b:=decide ((i_39 : Int) < (r_.vars.length : Int))) rfl (fun hc42=>?_) (fun hc42=>?_))))
 have hlt41:=of_decide_eq_true hc42
 rcases suf41 with _ | ⟨x_41,rest41⟩
 exact absurd hlt41 (by simp at hl41; omega)
 obtain ⟨o41,hB41,hL41⟩:=range_cons hL41
 rw [i_Rule_text_b1] at hB41
 have hix41:=drop_idx hd41
 refine W_skip (W_seq (W_block (sq (mF sf19 rfl (L_ix (r:=RP.int) rfl Tryz.underlying22 Tryz.sizeOf3 sf17 (RP.mono _ h0_1 hE18) sf19 hix41 (fun g47 o48 cs_g47 hrk_hat49 hat49=>?_))))))
 obtain rfl : _ = [_]:=hrk_hat49
 refine L_ld rfl Tryz.isAgg3 rfl (At.cell (AtH.at hat49 Z.sub) (j:=0) rfl) (aI rfl (aI rfl (nn ?_)))
 obtain ⟨x51,hx51,hB41⟩:=bind_some hB41
 obtain ⟨x61,hx61,hB41⟩:=bind_some hB41
 obtain ⟨x63,hx63,hB41⟩:=bind_some hB41
 obtain ⟨x64,hx64,hB41⟩:=bind_some hB41
 obtain ⟨x70,hx70,hB41⟩:=bind_some hB41
 obtain ⟨x72,hx72,hB41⟩:=bind_some hB41
 obtain ⟨x73,hx73,hB41⟩:=bind_some hB41
 refine W_region (mF sf3 rfl (fA 2 fa_49_2 sf1 rfl (ldB 0 Z Tryz.isAgg22 rfl rfl rfl (mI rfl (L_ix (r:=RP.int) rfl Tryz.underlying22 Tryz.sizeOf3 rfl (RP.mono _ h0_2 hE18) rfl hx51 (fun g74 o75 cs_g74 hrk_hat76 hat76=>?_))))))
 obtain rfl : _ = [_]:=hrk_hat76
 refine L_ld rfl Tryz.isAgg3 rfl (At.cell (AtH.at hat76 Z.sub) (j:=0) rfl) ?_
 obtain ⟨H78b,l79,s80,z81,k82⟩:=Z.borrow
 refine L_call rfl Tryz.call121 (ops1 rfl) (strconv_Itoa_c (x_:=x51) s80 hx61) ?_
 rintro _ w83 ⟨rfl,Z⟩
 have Z:=k82 Z c0
 obtain ⟨hx63_l,hx63_e⟩:=cat_some hx63
 refine L_sadd (s:=(⟨#[32]⟩ : ByteArray)) (s':=x61) rfl rfl rfl hx63_l ?_
 rw [← hx63_e]
 obtain ⟨hx64_l,hx64_e⟩:=cat_some hx64
 refine L_sadd (s:=x63) (s':=(⟨#[32]⟩ : ByteArray)) rfl rfl rfl hx64_l ?_
 rw [← hx64_e]
 refine mI rfl ?_
 obtain ⟨H84b,l85,s86,z87,k88⟩:=Z.borrow
 refine L_call rfl Tryz.call121 (ops1 rfl) (strconv_Itoa_c (x_:=x_41) s86 hx70) ?_
 rintro _ w89 ⟨rfl,Z⟩
 have Z:=k88 Z c0
 obtain ⟨hx72_l,hx72_e⟩:=cat_some hx72
 refine L_sadd (s:=x64) (s':=x70) rfl rfl rfl hx72_l ?_
 rw [← hx72_e]
 obtain ⟨hx73_l,hx73_e⟩:=cat_some hx73
 refine L_sadd (s:=out_40) (s':=x72) rfl rfl rfl hx73_l ?_
 rw [← hx73_e]
 refine aV (.string x73) rfl (nn (W_region (L_add rfl sf19 rfl (mI rfl (nn ?_)))))
 obtain rfl:=so hB41
 show ∃ m,m < _∧I41 m _ _
 refine ⟨rest41.length,by simp,?_⟩
 exact ij hI41 ⟨i_39 + 1,rest41,x73,rfl,drop_next hd41,by simp at hl41; omega,hL41,sf1,rfl,sf17,sf18,(Eq.trans rfl (congrArg (Value.int .i64) (i64_succ (n:=r_.vars.length) (by simp at hl41; omega) hlen41))),Z⟩
 rcases suf41 with _ | ⟨_,_⟩
 obtain rfl:=range_nil hL41
 refine W_exit (rj hR41 ⟨out_40,rfl,sf1,sf3,Z⟩)
 exact absurd (of_decide_eq_false hc42) (by simp at hl41; omega)
 intro f w_ hR
 obtain ⟨out_40,rfl,sf1,sf3,Z⟩:=rk hR41 hR
 refine W_seq ?_
 obtain ⟨x90,hx90,hF⟩:=bind_some hF
 obtain ⟨x96,hx96,hF⟩:=bind_some hF
 obtain ⟨x98,hx98,hF⟩:=bind_some hF
 refine W_region (mF sf3 rfl ?_)
 obtain ⟨hx90_l,hx90_e⟩:=cat_some hx90
 refine L_sadd (s:=out_40) (s':=(⟨#[32,62,61,32]⟩ : ByteArray)) rfl rfl rfl hx90_l ?_
 rw [← hx90_e]
 refine fA 3 fa_49_3 sf1 rfl (ldB 0 Z Tryz.isAgg3 rfl rfl rfl ?_)
 obtain ⟨H99b,l100,s101,z102,k103⟩:=Z.borrow
 refine L_call rfl Tryz.call121 (ops1 rfl) (strconv_Itoa_c (x_:=r_.bound) s101 hx96) ?_
 rintro _ w104 ⟨rfl,Z⟩
 have Z:=k103 Z c0
 obtain ⟨hx98_l,hx98_e⟩:=cat_some hx98
 refine L_sadd (s:=x90) (s':=x96) rfl rfl rfl hx98_l ?_
 rw [← hx98_e]
 refine aV (.string x98) rfl (nn (W_ret (retG1 (v1:=.string x98) Tryz.results81 rfl ?_)))
 obtain rfl:=so hF
 exact ⟨rfl,(Star.down (Star.keepN 0 Z) hE18 c0)⟩
 have hF:=(ite_f hc38).symm.trans hF
 refine W_skip (W_seq ?_)
 obtain ⟨x110,hx110,hF⟩:=bind_some hF
 obtain ⟨x112,hx112,hF⟩:=bind_some hF
 obtain ⟨x113,hx113,hF⟩:=bind_some hF
 refine W_region (mV (.string x13) rfl (fA 1 fa_49_1 ((hS18 1 rfl).trans rfl) rfl (ldB 0 Z Tryz.isAgg22 rfl rfl rfl ?_)))
 obtain ⟨H114b,l115,s116,z117,k118⟩:=Z.borrow
 refine L_call rfl Tryz.call80 (ops1 rfl) (i_digits_c (list:=r_.vars) s116 (RP.mono _ h0_1 (Le.trans hE18 l115)) hx110) ?_
 rintro _ w119 ⟨rfl,Z⟩
 have Z:=k118 Z c0
 obtain ⟨hx112_l,hx112_e⟩:=cat_some hx112
 refine L_sadd (s:=(⟨#[32]⟩ : ByteArray)) (s':=x110) rfl rfl rfl hx112_l ?_
 rw [← hx112_e]
 obtain ⟨hx113_l,hx113_e⟩:=cat_some hx113
 refine L_sadd (s:=x13) (s':=x112) rfl rfl rfl hx113_l ?_
 rw [← hx113_e]
 refine aV (.string x113) rfl (nq (sq (fA 4 fa_49_4 ((hS18 1 rfl).trans rfl) rfl (ldB 0 Z Tryz.isAgg47 rfl rfl rfl (L_len rfl Tryz.underlying47 rfl (slice_len (RP.mono _ h0_4 hE18)) (mI rfl (nn ?_)))))))
 have hlen122 : List.length r_.rows≤9223372036854775807:=len_le (slice_len (RP.mono _ h0_4 hE18))
 obtain ⟨j122,hL122,hF⟩:=bind_some hF
 obtain ⟨R122,hR122⟩:=exR fun f w_=>∃ out_121 : ByteArray,j122 = .nx out_121∧f 3 = .string out_121∧Star H18 w_ ([])
 refine W_join R122 ?_ ?_
 refine W_block ?_
 obtain ⟨I122,hI122⟩:=exI fun n f w_=>∃ i_120 : Nat,∃ suf122 : List (List Int),∃ out_121 : ByteArray,n = suf122.length∧List.drop i_120 r_.rows = suf122∧i_120 + suf122.length = r_.rows.length∧rangeL i_Rule_text_b2 suf122 i_120 out_121 = some j122∧f 3 = .string out_121∧f 51 = v0_4∧f 52 = I (r_.rows.length : Int)∧f 53 = I i_120∧Star H18 w_ ([])
 refine W_loop I122 (n:=r_.rows.length) ?_ ?_
 exact ij hI122 ⟨0,r_.rows,x113,rfl,rfl,Nat.zero_add _,hL122,rfl,rfl,rfl,rfl,(Star.keepN 0 Z)⟩
 intro n122 f w_ hI
 obtain ⟨i_120,suf122,out_121,rfl,hd122,hl122,hL122,sf3,sf51,sf52,sf53,Z⟩:=ik hI122 hI
 refine sq (L_lss rfl sf53 sf52 (nq (W_cond (b:=decide ((i_120 : Int) < (r_.rows.length : Int))) rfl (fun hc123=>?_) (fun hc123=>?_))))
 have hlt122:=of_decide_eq_true hc123
 rcases suf122 with _ | ⟨x_122,rest122⟩
 exact absurd hlt122 (by simp at hl122; omega)
 obtain ⟨o122,hB122,hL122⟩:=range_cons hL122
 rw [i_Rule_text_b2] at hB122
 have hix122:=drop_idx hd122
 refine W_skip (W_seq (W_block (sq (L_ix (r:=(rS 3 RP.int)) rfl Tryz.underlying47 Tryz.sizeOf22 sf51 (RP.mono _ h0_4 hE18) sf53 hix122 (fun g128 o129 cs_g128 hrk_hat130 hat130=>?_)))))
 obtain ⟨u131,rfl,hu131⟩:=slice1 hrk_hat130
 refine L_ld rfl Tryz.isAgg22 rfl (At.cell (AtH.at hat130 Z.sub) (j:=0) rfl) (aV u131 rfl (nn ?_))
 obtain ⟨x137,hx137,hB122⟩:=bind_some hB122
 obtain ⟨x139,hx139,hB122⟩:=bind_some hB122
 obtain ⟨x140,hx140,hB122⟩:=bind_some hB122
 refine W_region (mF sf3 rfl (mV u131 rfl ?_))
 obtain ⟨H141b,l142,s143,z144,k145⟩:=Z.borrow
 refine L_call rfl Tryz.call80 (ops1 rfl) (i_digits_c (list:=x_122) s143 (RP.mono _ hu131 l142) hx137) ?_
 rintro _ w146 ⟨rfl,Z⟩
 have Z:=k145 Z c0
 obtain ⟨hx139_l,hx139_e⟩:=cat_some hx139
 refine L_sadd (s:=(⟨#[32]⟩ : ByteArray)) (s':=x137) rfl rfl rfl hx139_l ?_
 rw [← hx139_e]
 obtain ⟨hx140_l,hx140_e⟩:=cat_some hx140
 refine L_sadd (s:=out_121) (s':=x139) rfl rfl rfl hx140_l ?_
 rw [← hx140_e]
 refine aV (.string x140) rfl (nn (W_region (L_add rfl sf53 rfl (mI rfl (nn ?_)))))
 obtain rfl:=so hB122
 show ∃ m,m < _∧I122 m _ _
 refine ⟨rest122.length,by simp,?_⟩
 exact ij hI122 ⟨i_120 + 1,rest122,x140,rfl,drop_next hd122,by simp at hl122; omega,hL122,rfl,sf51,sf52,(Eq.trans rfl (congrArg (Value.int .i64) (i64_succ (n:=r_.rows.length) (by simp at hl122; omega) hlen122))),Z⟩
 rcases suf122 with _ | ⟨_,_⟩
 obtain rfl:=range_nil hL122
 refine W_exit (rj hR122 ⟨out_121,rfl,sf3,Z⟩)
 exact absurd (of_decide_eq_false hc123) (by simp at hl122; omega)
 intro f w_ hR
 obtain ⟨out_121,rfl,sf3,Z⟩:=rk hR122 hR
 refine sq (mF sf3 rfl (aV (.string out_121) rfl (nn (W_ret (retG1 (v1:=.string out_121) Tryz.results81 rfl ?_)))))
 obtain rfl:=so hF
 exact ⟨rfl,(Star.down Z hE18 c0)⟩
theorem i_formatModel_c {m : Model} {v0_0 : Value} {v0_1 : Value} {H : FH} {w : World} (Z : Star H w []) (h0_0 : (rS 3 RP.int).rel H [v0_0] m.sizes) (h0_1 : (rS 49 (rRule 3 22)).rel H [v0_1] m.rules) {r : ByteArray} (hF : i_formatModel m = some r) :
 C Tryz.prog 36 #[.agg #[v0_0,v0_1]] w fun v w'=>v = .string r∧Star H w' []:=by
 unfold i_formatModel at hF
 refine C_enter Tryz.func36 rfl Tryz.ntmps36 rfl (sq (L_box (v:=.agg #[v0_0,v0_1]) (cs:=#[v0_0,v0_1]) rfl rfl rfl Z (fun g3 w4 Z=>aV (.string (⟨#[]⟩ : ByteArray)) rfl (nq ?_))))
 obtain ⟨x10,hx10,hF⟩:=bind_some hF
 obtain ⟨x12,hx12,hF⟩:=bind_some hF
 obtain ⟨x13,hx13,hF⟩:=bind_some hF
 refine W_region (fA 0 fa_25_0 rfl rfl (ldB 0 Z Tryz.isAgg22 rfl rfl rfl ?_))
 obtain ⟨H14b,l15,s16,z17,k18⟩:=Z.borrow
 refine L_call rfl Tryz.call80 (ops1 rfl) (i_digits_c (list:=m.sizes) s16 (RP.mono _ h0_0 l15) hx10) ?_
 rintro _ w19 ⟨rfl,Z⟩
 have Z:=k18 Z c0
 obtain ⟨hx12_l,hx12_e⟩:=cat_some hx12
 refine L_sadd (s:=(⟨#[115,105,122,101,115,32]⟩ : ByteArray)) (s':=x10) rfl rfl rfl hx12_l ?_
 rw [← hx12_e]
 obtain ⟨hx13_l,hx13_e⟩:=cat_some hx13
 refine L_sadd (s:=x12) (s':=(⟨#[10]⟩ : ByteArray)) rfl rfl rfl hx13_l ?_
 rw [← hx13_e]
 refine aV (.string x13) rfl (nq (sq (fA 1 fa_25_1 rfl rfl (ldB 0 Z Tryz.isAgg23 rfl rfl rfl (L_len rfl Tryz.underlying23 rfl (slice_len h0_1) (mI rfl (nn ?_)))))))
 have hlen22 : List.length m.rules≤9223372036854775807:=len_le (slice_len h0_1)
 obtain ⟨j22,hL22,hF⟩:=bind_some hF
 obtain ⟨R22,hR22⟩:=exR fun f w_=>∃ out_21 : ByteArray,j22 = .nx out_21∧f 3 = .string out_21∧Star H w_ ([])
 refine W_join R22 ?_ ?_
 refine W_block ?_
 obtain ⟨I22,hI22⟩:=exI fun n f w_=>∃ i_20 : Nat,∃ suf22 : List Rule,∃ out_21 : ByteArray,n = suf22.length∧List.drop i_20 m.rules = suf22∧i_20 + suf22.length = m.rules.length∧rangeL i_formatModel_b1 suf22 i_20 out_21 = some j22∧f 3 = .string out_21∧f 12 = v0_1∧f 13 = I (m.rules.length : Int)∧f 14 = I i_20∧Star H w_ ([])
 refine W_loop I22 (n:=m.rules.length) ?_ ?_
 exact ij hI22 ⟨0,m.rules,x13,rfl,rfl,Nat.zero_add _,hL22,rfl,rfl,rfl,rfl,(Star.keepN 0 Z)⟩
 intro n22 f w_ hI
 obtain ⟨i_20,suf22,out_21,rfl,hd22,hl22,hL22,sf3,sf12,sf13,sf14,Z⟩:=ik hI22 hI
 refine sq (L_lss rfl sf14 sf13 (nq (W_cond (b:=decide ((i_20 : Int) < (m.rules.length : Int))) rfl (fun hc23=>?_) (fun hc23=>?_))))
 have hlt22:=of_decide_eq_true hc23
 rcases suf22 with _ | ⟨x_22,rest22⟩
 exact absurd hlt22 (by simp at hl22; omega)
 obtain ⟨o22,hB22,hL22⟩:=range_cons hL22
 rw [i_formatModel_b1] at hB22
 have hix22:=drop_idx hd22
 refine W_skip (W_seq (W_block (sq (L_ix (r:=(rRule 3 22)) rfl Tryz.underlying23 Tryz.sizeOf49 sf12 h0_1 sf14 hix22 (fun g31 o32 cs_g31 hrk_hat33 hat33=>?_)))))
 obtain ⟨u34_0,u34_1,u34_2,rfl,hu34_0,hu34_1,hu34_2⟩:=rRule_iff.1 hrk_hat33
 refine L_lda (cs:=[I x_22.kind,u34_0,u34_1,I x_22.bound,u34_2]) rfl Tryz.isAgg49 Tryz.sizeOf49 rfl (At.sub (AtH.at hat33 Z.sub) 0 5) rfl (L_al (cs:=#[I 0,S0,S0,I 0,S0]) rfl Tryz.zeroValue49 rfl Z (fun g35 w36 Z=>L_staB (vs:=#[I x_22.kind,u34_0,u34_1,I x_22.bound,u34_2]) (cs2:=#[I x_22.kind,u34_0,u34_1,I x_22.bound,u34_2]) 0 rfl Tryz.sizeOf49 rfl rfl rfl (ones_cons rfl (ones_cons (one_len (slice_len hu34_0)) (ones_cons (one_len (slice_len hu34_1)) (ones_cons rfl (ones_cons (one_len (slice_len hu34_2)) ones_nil))))) Z rfl (by show 0 + 5≤5; decide) rfl (fun w37 Z=>nn ?_)))
 obtain ⟨x43,hx43,hB22⟩:=bind_some hB22
 obtain ⟨x45,hx45,hB22⟩:=bind_some hB22
 obtain ⟨x46,hx46,hB22⟩:=bind_some hB22
 refine W_region (mF sf3 rfl (L_lda (cs:=[I x_22.kind,u34_0,u34_1,I x_22.bound,u34_2]) rfl Tryz.isAgg49 Tryz.sizeOf49 rfl (At.sub0 (Blk.at (Star.blkAt 0 Z rfl)) 0 5) rfl ?_))
 obtain ⟨H47b,l48,s49,z50,k51⟩:=Z.borrow
 refine L_call rfl Tryz.call81 (ops1 rfl) (i_Rule_text_c (r_:=x_22) s49 (RP.mono _ hu34_0 l48) (RP.mono _ hu34_1 l48) (RP.mono _ hu34_2 l48) hx43) ?_
 rintro _ w52 ⟨rfl,Z⟩
 have Z:=k51 Z c0
 obtain ⟨hx45_l,hx45_e⟩:=cat_some hx45
 refine L_sadd (s:=x43) (s':=(⟨#[10]⟩ : ByteArray)) rfl rfl rfl hx45_l ?_
 rw [← hx45_e]
 obtain ⟨hx46_l,hx46_e⟩:=cat_some hx46
 refine L_sadd (s:=out_21) (s':=x45) rfl rfl rfl hx46_l ?_
 rw [← hx46_e]
 refine aV (.string x46) rfl (nn (W_region (L_add rfl sf14 rfl (mI rfl (nn ?_)))))
 obtain rfl:=so hB22
 show ∃ m,m < _∧I22 m _ _
 refine ⟨rest22.length,by simp,?_⟩
 exact ij hI22 ⟨i_20 + 1,rest22,x46,rfl,drop_next hd22,by simp at hl22; omega,hL22,rfl,sf12,sf13,(Eq.trans rfl (congrArg (Value.int .i64) (i64_succ (n:=m.rules.length) (by simp at hl22; omega) hlen22))),(Star.keepN 0 Z)⟩
 rcases suf22 with _ | ⟨_,_⟩
 obtain rfl:=range_nil hL22
 refine W_exit (rj hR22 ⟨out_21,rfl,sf3,Z⟩)
 exact absurd (of_decide_eq_false hc23) (by simp at hl22; omega)
 intro f w_ hR
 obtain ⟨out_21,rfl,sf3,Z⟩:=rk hR22 hR
 refine sq (mF sf3 rfl (aV (.string out_21) rfl (nn (W_ret (retG1 (v1:=.string out_21) Tryz.results36 rfl ?_)))))
 obtain rfl:=so hF
 exact ⟨rfl,Z⟩
theorem i_ParseModel_c {fu : Nat} {text : ByteArray} {H : FH} {w : World} (Z : Star H w []) {r : Model × Bool} (hF : i_ParseModel fu text = some r) :
 C Tryz.prog 8 #[.string text] w fun v w'=>∃ (u1 : Value) (u2 : Value),v = .tuple #[.agg #[u1,u2],Bo r.2]∧Star H w' [oF 3 RP.int u1 r.1.sizes,oS 49 (oRule 3 22) u2 r.1.rules]:=by
 unfold i_ParseModel at hF
 refine C_enter Tryz.func8 rfl Tryz.ntmps8 rfl (sq (L_al (cs:=#[S0,S0]) rfl Tryz.zeroValue25 rfl Z (fun g3 w4 Z=>aB rfl (nq ?_))))
 obtain ⟨x5,hx5,hF⟩:=bind_some hF
 refine W_region (mV (.string text) rfl (L_call rfl Tryz.call32 (ops2 rfl rfl) (i_linesOf_c (text:=text) (most:=9) Z hx5) ?_))
 rintro _ w7 ⟨H7,l7,r7_0,rfl,hr7_0,Z⟩
 refine mV (.tuple #[r7_0,Bo x5.2]) rfl (L_ex (v:=r7_0) rfl rfl rfl (L_ex (v:=Bo x5.2) rfl rfl rfl (aV r7_0 rfl (aB rfl (nq (W_seq ?_))))))
 obtain ⟨R8,hR8⟩:=exR fun f w_=>f 0 = .string text∧f 2 = Pt g3∧f 4 = r7_0∧f 21 = Bo ((!x5.2) || ((x5.1.length : Int) == 0))∧Star H7 w_ ([box g3 25 #[S0,S0]])
 refine W_join R8 ?_ ?_
 refine W_region (mB rfl (L_not_ rfl rfl (mB rfl (L_split (d:=17) (b:=(!x5.2)) rfl (fun hc9=>?_) (fun hc9=>?_)))))
 refine ps rfl (ps rfl (ps rfl (L_pick (v:=Bo ((!x5.2) || ((x5.1.length : Int) == 0))) rfl rfl (or_t hc9) (nn (rj hR8 ⟨rfl,rfl,rfl,rfl,Z⟩)))))
 refine mV r7_0 rfl (L_len rfl Tryz.underlying44 rfl (slice_len hr7_0) (L_eql rfl rfl rfl (L_pick (v:=Bo ((!x5.2) || ((x5.1.length : Int) == 0))) rfl rfl (or_f hc9 rfl) (nn (rj hR8 ⟨rfl,rfl,rfl,rfl,Z⟩)))))
 intro f w_ hR
 obtain ⟨sf0,sf2,sf4,sf21,Z⟩:=rk hR8 hR
 refine W_cond (b:=((!x5.2) || ((x5.1.length : Int) == 0))) sf21 (fun hc10=>?_) (fun hc10=>?_)
 have hF:=(ite_t hc10).symm.trans hF
 refine sq (L_bld rfl (parts0 ) (bld_25_  ) (L_staB (vs:=#[S0,S0]) (cs2:=#[S0,S0]) 0 rfl Tryz.sizeOf25 sf2 rfl rfl (ones_cons rfl (ones_cons rfl ones_nil)) Z rfl (by show 0 + 2≤2; decide) rfl (fun w12 Z=>aB rfl (nn (W_ret (retG2 (v1:=.agg #[S0,S0]) (v2:=Bo false) Tryz.results8 (resV_agg Tryz.isAgg25 Tryz.sizeOf25 sf2 (Star.blkAt 0 Z rfl) rfl) rfl ?_))))))
 obtain rfl:=so hF
 have Z:=Star.addNil (R:=(OR.frz RP.int)) (e:=3) Z
 have Z:=Star.addNil (R:=(oRule 3 22)) (e:=49) Z
 have Z:=Z.get 1 rfl
 exact ⟨S0,S0,rfl,(Star.down (Star.keepN 2 Z) l7 (co closed_int (co closed_oRule c0)))⟩
 have hF:=(ite_f hc10).symm.trans hF
 refine W_skip (W_seq ?_)
 obtain ⟨x15,hx15,hF⟩:=bind_some hF
 obtain ⟨x25,hx25,hF⟩:=bind_some hF
 refine W_region (mF sf4 rfl (L_ix (r:=RP.str) rfl Tryz.underlying44 Tryz.sizeOf9 rfl hr7_0 rfl hx15 (fun g27 o28 cs_g27 hrk_hat29 hat29=>?_)))
 obtain rfl : _ = [_]:=hrk_hat29
 refine L_ld rfl Tryz.isAgg9 rfl (At.cell (AtH.at hat29 Z.sub) (j:=0) rfl) ?_
 obtain ⟨H31b,l32,s33,z34,k35⟩:=Z.borrow
 refine L_call rfl Tryz.call33 (ops2 rfl rfl) (strings_CutPrefix_c (x_:=x15) (y_:=(⟨#[115,105,122,101,115,32]⟩ : ByteArray)) s33 hx25) ?_
 rintro _ w36 ⟨rfl,Z⟩
 have Z:=k35 Z c0
 refine mV (.tuple #[.string x25.1,Bo x25.2]) rfl (L_ex (v:=.string x25.1) rfl rfl rfl (L_ex (v:=Bo x25.2) rfl rfl rfl (aV (.string x25.1) rfl (aB rfl (nq (sq (mB rfl (L_not_ rfl rfl (nn (W_cond (b:=(!x25.2)) rfl (fun hc37=>?_) (fun hc37=>?_)))))))))))
 have hF:=(ite_t hc37).symm.trans hF
 refine sq (L_bld rfl (parts0 ) (bld_25_  ) (L_staB (vs:=#[S0,S0]) (cs2:=#[S0,S0]) 0 rfl Tryz.sizeOf25 sf2 rfl rfl (ones_cons rfl (ones_cons rfl ones_nil)) Z rfl (by show 0 + 2≤2; decide) rfl (fun w39 Z=>aB rfl (nn (W_ret (retG2 (v1:=.agg #[S0,S0]) (v2:=Bo false) Tryz.results8 (resV_agg Tryz.isAgg25 Tryz.sizeOf25 sf2 (Star.blkAt 0 Z rfl) rfl) rfl ?_))))))
 obtain rfl:=so hF
 have Z:=Star.addNil (R:=(OR.frz RP.int)) (e:=3) Z
 have Z:=Star.addNil (R:=(oRule 3 22)) (e:=49) Z
 have Z:=Z.get 1 rfl
 exact ⟨S0,S0,rfl,(Star.down (Star.keepN 2 Z) l7 (co closed_int (co closed_oRule c0)))⟩
 have hF:=(ite_f hc37).symm.trans hF
 refine W_skip (W_seq ?_)
 obtain ⟨x47,hx47,hF⟩:=bind_some hF
 refine W_region (mV (.string x25.1) rfl ?_)
 obtain ⟨H53b,l54,s55,z56,k57⟩:=Z.borrow
 refine L_call rfl Tryz.call34 (ops1 rfl) (i_readDigits_c (s:=x25.1) s55 hx47) ?_
 rintro r58_0 w58 ⟨_,rfl,Z⟩
 have Z:=k57 Z (co closed_int c0)
 refine L_bld rfl (parts1 rfl) (bld_25_0 (r58_0) (one_len (Star.len 0 Z rfl))) (L_al (cs:=#[S0,S0]) rfl Tryz.zeroValue25 rfl Z (fun g60 w61 Z=>L_staB (vs:=#[r58_0,S0]) (cs2:=#[r58_0,S0]) 0 rfl Tryz.sizeOf25 rfl rfl rfl (ones_cons (one_len (Star.len 1 Z rfl)) (ones_cons rfl ones_nil)) Z rfl (by show 0 + 2≤2; decide) rfl (fun w62 Z=>nq (W_seq ?_))))
 obtain ⟨x63,hx63,hF⟩:=bind_some hF
 refine W_region (mF sf4 rfl (L_sl (a:=1) (b:=(x5.1.length : Int)) rfl et_44 rfl hr7_0 rfl rfl hx63 (fun v66 hs67=>L_len rfl Tryz.underlying44 rfl (slice_len hs67) (mI rfl (nn ?_)))))
 have hlen73 : List.length x63≤9223372036854775807:=len_le (slice_len hs67)
 obtain ⟨j73,hL73,hF⟩:=bind_some hF
 obtain ⟨R73,hR73⟩:=exR fun f w_=>∃ g60_1_69 : List Rule,∃ H71 : FH,∃ v69_g60_1 : Value,j73 = .nx g60_1_69∧Le H7 H71∧f 0 = .string text∧f 2 = Pt g3∧f 7 = Pt g60∧Star H71 w_ ([oF 3 RP.int r58_0 x47,oS 49 (oRule 3 22) v69_g60_1 g60_1_69,box g60 25 #[r58_0,v69_g60_1],box g3 25 #[S0,S0]])
 refine W_join R73 ?_ ?_
 refine W_block ?_
 obtain ⟨I73,hI73⟩:=exI fun n f w_=>∃ i_68 : Nat,∃ suf73 : List ByteArray,∃ g60_1_69 : List Rule,∃ H71 : FH,∃ v69_g60_1 : Value,n = suf73.length∧List.drop i_68 x63 = suf73∧i_68 + suf73.length = x63.length∧rangeL (i_ParseModel_b1 fu) suf73 i_68 g60_1_69 = some j73∧Le H7 H71∧f 0 = .string text∧f 2 = Pt g3∧f 7 = Pt g60∧f 37 = v66∧f 38 = I (x63.length : Int)∧f 39 = I i_68∧Star H71 w_ ([oF 3 RP.int r58_0 x47,oS 49 (oRule 3 22) v69_g60_1 g60_1_69,box g60 25 #[r58_0,v69_g60_1],box g3 25 #[S0,S0]])
 have Z:=Star.addNil (R:=(oRule 3 22)) (e:=49) Z
 have Z:=Z.gets [3,2,2,3] rfl
 refine W_loop I73 (n:=x63.length) ?_ ?_
 exact ij hI73 ⟨0,x63,[],H7,S0,rfl,rfl,Nat.zero_add _,hL73,(Le.refl _),sf0,sf2,rfl,rfl,rfl,rfl,Z⟩
 intro n73 f w_ hI
 obtain ⟨i_68,suf73,g60_1_69,H71,v69_g60_1,rfl,hd73,hl73,hL73,l72,sf0,sf2,sf7,sf37,sf38,sf39,Z⟩:=ik hI73 hI
 refine sq (L_lss rfl sf39 sf38 (nq (W_cond (b:=decide ((i_68 : Int) < (x63.length : Int))) rfl (fun hc75=>?_) (fun hc75=>?_))))
 have hlt73:=of_decide_eq_true hc75
 rcases suf73 with _ | ⟨x_73,rest73⟩
 exact absurd hlt73 (by simp at hl73; omega)
 obtain ⟨o73,hB73,hL73⟩:=range_cons hL73
 rw [i_ParseModel_b1] at hB73
 have hix73:=drop_idx hd73
 refine W_skip (W_seq (W_block (sq (L_ix (r:=RP.str) rfl Tryz.underlying44 Tryz.sizeOf9 sf37 (RP.mono _ hs67 l72) sf39 hix73 (fun g80 o81 cs_g80 hrk_hat82 hat82=>?_)))))
 obtain rfl : _ = [_]:=hrk_hat82
 refine L_ld rfl Tryz.isAgg9 rfl (At.cell (AtH.at hat82 Z.sub) (j:=0) rfl) (aV (.string x_73) rfl (nn ?_))
 obtain ⟨x89,hx89,hB73⟩:=bind_some hB73
 obtain ⟨x97,hx97,hB73⟩:=bind_some hB73
 refine W_drawS 5 [isV (Pq g60 1),isV (v69_g60_1),isV (.string x_73),exA fun u_1=>exA fun u_2=>exA fun u_4=>isV (.agg #[I x89.kind,u_1,u_2,I x89.bound,u_4]),anyF] [oF 3 RP.int r58_0 x47,oS 49 (oRule 3 22) v69_g60_1 g60_1_69,box g60 25 #[r58_0,v69_g60_1],box g3 25 #[S0,S0]] [.made 3 46 (fun v_=>oF 3 RP.int (aggC v_ 1) x89.vars) (some 4),.made 3 46 (fun v_=>oF 3 RP.int (aggC v_ 2) x89.coefs) (some 4),.made 3 46 (fun v_=>own (OR.ownS 22 (OR.ownS 3 (OR.frz RP.int))) [(aggC v_ 4)] x89.rows) (some 4),.made 4 47 (fun v_=>oS 49 (oRule 3 22) v_ ([x89])) none] ([]) [([],[]),([],[]),([],[]),([],[0,1,2]),([0,1,2],[3])] (S:=[(some 3,[46],some 4),(some 3,[46],some 4),(some 3,[46],some 4),(some 4,[47],none)]) Tryz_mix (by kernel_rfl) rfl (by kernel_rfl) (amF_cons (mono_V _) (amF_cons (mono_V _) (amF_cons (mono_V _) (amF_cons (mono_exA fun _=>mono_exA fun _=>mono_exA fun _=>mono_V _) (amF_cons (mono_any) amF_nil))))) Z ?_ (fun f w_ H102 hS102 hE102 hT102 Z=>?_)
 refine opsS_cons (fun f w_ _ _ s _ _ Z=>fA 1 fa_25_1 ((s 7 rfl).trans sf7) rfl (nO rfl rfl Z)) (opsS_cons (fun f w_ _ _ _ _ p Z=>ldB 2 Z Tryz.isAgg23 (p 0 43 rfl rfl) rfl rfl (nO rfl rfl Z)) (opsS_cons (fun f w_ _ _ s _ _ Z=>mF ((s 9 rfl).trans rfl) rfl (nO rfl rfl Z)) (opsS_cons ?_ ?_)))
 intro f w_ H102 X102 hS102 hE102 hP102 Z
 obtain ⟨H115b,l116,s117,z118,k119⟩:=Z.borrow
 refine L_call rfl Tryz.call35 (ops1 (hP102 2 45 rfl rfl)) (i_readRule_c (line:=x_73) s117 hx89) ?_
 rintro _ w120 ⟨r120_0,r120_1,r120_2,rfl,Z⟩
 have Z:=k119 Z (co closed_int (co closed_int (cc (closed_own (OR.closed_ownS (OR.closed_ownS closed_int)) _ _) c0)))
 have Z:=Z.gets [2,2,2,6,6,6,6] rfl
 exact L_nil ⟨rfl,_,_,rfl,Le.refl _,fun _ _=>⟨_,_,_,rfl⟩,Z⟩
 refine opsS_cons ?_ ?_
 intro f w_ H102 X102 hS102 hE102 hP102 Z
 have Z : Star H102 w_ (oF 3 RP.int r58_0 x47 :: oS 49 (oRule 3 22) v69_g60_1 g60_1_69 :: box g60 25 #[r58_0,v69_g60_1] :: box g3 25 #[S0,S0] :: own (OR.ownS 3 (OR.frz RP.int)) [(aggC (f 46) 1)] x89.vars :: own (OR.ownS 3 (OR.frz RP.int)) [(aggC (f 46) 2)] x89.coefs :: own (OR.ownS 22 (OR.ownS 3 (OR.frz RP.int))) [(aggC (f 46) 4)] x89.rows :: X102):=Z
 obtain ⟨u124_1,u124_2,u124_4,hv124⟩:=(hP102 3 46 rfl rfl)
 have hren : Star H102 w_ (oF 3 RP.int r58_0 x47 :: oS 49 (oRule 3 22) v69_g60_1 g60_1_69 :: box g60 25 #[r58_0,v69_g60_1] :: box g3 25 #[S0,S0] :: own (OR.ownS 3 (OR.frz RP.int)) [(aggC (f 46) 1)] x89.vars :: own (OR.ownS 3 (OR.frz RP.int)) [(aggC (f 46) 2)] x89.coefs :: own (OR.ownS 22 (OR.ownS 3 (OR.frz RP.int))) [(aggC (f 46) 4)] x89.rows :: X102):=Z
 rw [hv124] at hren
 have Z : Star H102 w_ (oF 3 RP.int r58_0 x47 :: oS 49 (oRule 3 22) v69_g60_1 g60_1_69 :: box g60 25 #[r58_0,v69_g60_1] :: box g3 25 #[S0,S0] :: oF 3 RP.int u124_1 x89.vars :: oF 3 RP.int u124_2 x89.coefs :: own (OR.ownS 22 (OR.ownS 3 (OR.frz RP.int))) [u124_4] x89.rows :: X102):=hren
 refine L_bs rfl (parts1 hv124) (bs_23_1_5 (I x89.kind) (u124_1) (u124_2) (I x89.bound) (u124_4) ) Z (fun g125 w126 Z=>?_)
 have Z:=Z.gets [7,7,7] rfl
 have Z:=oRule_close (r:=x89) Z
 have Z:=Star.mkRow (R:=(oRule 3 22)) [([I x89.kind,u124_1,u124_2,I x89.bound,u124_4],x89)] [x89] 1 Z rfl rfl rfl (by decide)
 have Z:=Z.gets [4,4,4,4] rfl
 exact L_nil ⟨rfl,_,_,rfl,Le.refl _,fun _ _=>trivial,Z⟩
 exact opsS_nil
 have Z : Star H102 w_ ([oF 3 RP.int r58_0 x47,oS 49 (oRule 3 22) v69_g60_1 g60_1_69,box g60 25 #[r58_0,v69_g60_1],box g3 25 #[S0,S0],oS 49 (oRule 3 22) (f 47) ([x89])]):=Z
 have Z:=Z.gets [4,2] rfl
 refine L_appM (v:=v69_g60_1) (u:=(f 47)) rfl et_23 (hT102 1 44 rfl rfl) rfl Z hx97 (fun v129 w130 Z=>fA 1 fa_25_1 ((hS102 7 rfl).trans sf7) rfl (L_stB (v:=v129) (cs2:=#[r58_0,v129]) 2 rfl Tryz.sizeOf23 rfl rfl (one_len (Star.len 0 Z rfl)) Z rfl rfl rfl (fun w132 Z=>nn (W_region (L_add rfl ((hS102 39 rfl).trans sf39) rfl (mI rfl (nn ?_)))))))
 obtain rfl:=so hB73
 have Z:=Z.gets [3,1,2,3] rfl
 show ∃ m,m < _∧I73 m _ _
 refine ⟨rest73.length,by simp,?_⟩
 exact ij hI73 ⟨i_68 + 1,rest73,x97,H102,v129,rfl,drop_next hd73,by simp at hl73; omega,hL73,(Le.trans l72 hE102),((hS102 0 rfl).trans sf0),((hS102 2 rfl).trans sf2),((hS102 7 rfl).trans sf7),((hS102 37 rfl).trans sf37),((hS102 38 rfl).trans sf38),(Eq.trans rfl (congrArg (Value.int .i64) (i64_succ (n:=x63.length) (by simp at hl73; omega) hlen73))),Z⟩
 rcases suf73 with _ | ⟨_,_⟩
 obtain rfl:=range_nil hL73
 refine W_exit (rj hR73 ⟨g60_1_69,H71,v69_g60_1,rfl,l72,sf0,sf2,sf7,Z⟩)
 exact absurd (of_decide_eq_false hc75) (by simp at hl73; omega)
 intro f w_ hR
 obtain ⟨g60_1_69,H71,v69_g60_1,rfl,l72,sf0,sf2,sf7,Z⟩:=rk hR73 hR
 refine W_seq (W_seq ?_)
 obtain ⟨x140,hx140,hF⟩:=bind_some hF
 obtain ⟨b151,hb151,hF⟩:=bind_some hF
 obtain ⟨R152,hR152⟩:=exR fun f w_=>f 2 = Pt g3∧f 7 = Pt g60∧f 59 = Bo b151∧Star H71 w_ ([oF 3 RP.int r58_0 x47,oS 49 (oRule 3 22) v69_g60_1 g60_1_69,box g60 25 #[r58_0,v69_g60_1],box g3 25 #[S0,S0]])
 refine W_join R152 ?_ ?_
 refine W_region (L_lda (cs:=[r58_0,v69_g60_1]) rfl Tryz.isAgg25 Tryz.sizeOf25 sf7 (At.sub0 (Blk.at (Star.blkAt 2 Z rfl)) 0 2) rfl ?_)
 obtain ⟨H153b,l154,s155,z156,k157⟩:=Z.borrow
 have hb158 : (rS 3 RP.int).rel H153b [r58_0] x47:=fz_own 0 z156 rfl
 have hb159 : (rS 49 (rRule 3 22)).rel H153b [v69_g60_1] g60_1_69:=fz_own 1 z156 rfl
 refine L_call rfl Tryz.call15 (ops1 rfl) (i_ModelValid_c (m:=({ sizes:=x47,rules:=g60_1_69 } : Model)) s155 hb158 hb159 hx140) ?_
 rintro _ w160 ⟨rfl,Z⟩
 have Z:=k157 Z c0
 refine L_not_ rfl rfl (mB rfl (L_split (d:=54) (b:=(!x140)) rfl (fun hc161=>?_) (fun hc161=>?_)))
 rw [ite_t hc161] at hb151
 refine ps rfl (ps rfl (ps rfl (ps rfl (L_pick (v:=Bo b151) rfl rfl (congrArg Value.bool (so hb151)) (nn (rj hR152 ⟨sf2,sf7,rfl,Z⟩))))))
 rw [ite_f hc161] at hb151
 obtain ⟨x149,hx149,hb151⟩:=bind_some hb151
 refine L_lda (cs:=[r58_0,v69_g60_1]) rfl Tryz.isAgg25 Tryz.sizeOf25 sf7 (At.sub0 (Blk.at (Star.blkAt 2 Z rfl)) 0 2) rfl ?_
 obtain ⟨H162b,l163,s164,z165,k166⟩:=Z.borrow
 have hb167 : (rS 3 RP.int).rel H162b [r58_0] x47:=fz_own 0 z165 rfl
 have hb168 : (rS 49 (rRule 3 22)).rel H162b [v69_g60_1] g60_1_69:=fz_own 1 z165 rfl
 refine L_call rfl Tryz.call36 (ops1 rfl) (i_formatModel_c (m:=({ sizes:=x47,rules:=g60_1_69 } : Model)) s164 hb167 hb168 hx149) ?_
 rintro _ w169 ⟨rfl,Z⟩
 have Z:=k166 Z c0
 refine mF sf0 rfl (L_sneq (s:=x149) (s':=text) rfl rfl rfl (L_pick (v:=Bo b151) rfl rfl (congrArg Value.bool (so hb151)) (nn (rj hR152 ⟨sf2,sf7,rfl,Z⟩))))
 intro f w_ hR
 obtain ⟨sf2,sf7,sf59,Z⟩:=rk hR152 hR
 refine W_cond (b:=b151) sf59 (fun hc170=>?_) (fun hc170=>?_)
 have hF:=(ite_t hc170).symm.trans hF
 refine sq (L_bld rfl (parts0 ) (bld_25_  ) (L_staB (vs:=#[S0,S0]) (cs2:=#[S0,S0]) 3 rfl Tryz.sizeOf25 sf2 rfl rfl (ones_cons rfl (ones_cons rfl ones_nil)) Z rfl (by show 0 + 2≤2; decide) rfl (fun w172 Z=>aB rfl (nn (W_ret (retG2 (v1:=.agg #[S0,S0]) (v2:=Bo false) Tryz.results8 (resV_agg Tryz.isAgg25 Tryz.sizeOf25 sf2 (Star.blkAt 0 Z rfl) rfl) rfl ?_))))))
 obtain rfl:=so hF
 have Z:=Star.addNil (R:=(OR.frz RP.int)) (e:=3) Z
 have Z:=Star.addNil (R:=(oRule 3 22)) (e:=49) Z
 have Z:=Z.get 1 rfl
 exact ⟨S0,S0,rfl,(Star.down (Star.keepN 2 Z) (Le.trans l7 l72) (co closed_int (co closed_oRule c0)))⟩
 have hF:=(ite_f hc170).symm.trans hF
 refine W_skip (sq (L_lda (cs:=[r58_0,v69_g60_1]) rfl Tryz.isAgg25 Tryz.sizeOf25 sf7 (At.sub0 (Blk.at (Star.blkAt 2 Z rfl)) 0 2) rfl (L_staB (vs:=#[r58_0,v69_g60_1]) (cs2:=#[r58_0,v69_g60_1]) 3 rfl Tryz.sizeOf25 sf2 rfl rfl (ones_cons (one_len (Star.len 0 Z rfl)) (ones_cons (one_len (Star.len 1 Z rfl)) ones_nil)) Z rfl (by show 0 + 2≤2; decide) rfl (fun w176 Z=>aB rfl (nn (W_ret (retG2 (v1:=.agg #[r58_0,v69_g60_1]) (v2:=Bo true) Tryz.results8 (resV_agg Tryz.isAgg25 Tryz.sizeOf25 sf2 (Star.blkAt 0 Z rfl) rfl) rfl ?_)))))))
 obtain rfl:=so hF
 have Z:=Z.gets [2,2] rfl
 exact ⟨r58_0,v69_g60_1,rfl,(Star.down (Star.keepN 2 Z) (Le.trans l7 l72) (co closed_int (co closed_oRule c0)))⟩
theorem l_eqIntS_c {a : List Int} {b : List Int} {v0 : Value} {v1 : Value} {H : FH} {w : World} (Z : Star H w []) (h0 : (rS 3 RP.int).rel H [v0] a) (h1 : (rS 3 RP.int).rel H [v1] b) {r : Bool} (hF : l_eqIntS a b = some r) :
 C Tryz.prog 37 #[v0,v1] w fun v w'=>v = Bo r∧Star H w' []:=by
 unfold l_eqIntS at hF
 refine C_enter Tryz.func37 rfl Tryz.ntmps37 rfl (sq (aB rfl (nq (sq (mV v0 rfl (L_len rfl Tryz.underlying22 rfl (slice_len h0) (mV v1 rfl (L_len rfl Tryz.underlying22 rfl (slice_len h1) (L_neq rfl rfl rfl (nn (W_cond (b:=((a.length : Int) != (b.length : Int))) rfl (fun hc1=>?_) (fun hc1=>?_))))))))))))
 have hF:=(ite_t hc1).symm.trans hF
 refine sq (aB rfl (nn (W_ret (retG1 (v1:=Bo false) Tryz.results37 rfl ?_))))
 obtain rfl:=so hF
 exact ⟨rfl,Z⟩
 have hF:=(ite_f hc1).symm.trans hF
 refine W_skip (W_seq (sq (aI rfl (nn ?_))))
 have hlen5 : List.length a≤9223372036854775807:=len_le (slice_len h0)
 obtain ⟨j5,hL5,hF⟩:=bind_some hF
 obtain ⟨R5,hR5⟩:=exR fun f w_=>∃ H3 : FH,j5 = .nx ()∧Le H H3∧Star H3 w_ ([])
 refine W_join R5 ?_ ?_
 refine W_block ?_
 obtain ⟨I5,hI5⟩:=exI fun n f w_=>∃ i_2 : Nat,∃ suf5 : List Int,∃ H3 : FH,n = suf5.length∧List.drop i_2 a = suf5∧i_2 + suf5.length = a.length∧rangeL (l_eqIntS_b1 b) suf5 i_2 () = some j5∧Le H H3∧f 0 = v0∧f 1 = v1∧f 5 = I i_2∧Star H3 w_ ([])
 refine W_loop I5 (n:=a.length) ?_ ?_
 exact ij hI5 ⟨0,a,H,rfl,rfl,Nat.zero_add _,hL5,(Le.refl _),rfl,rfl,rfl,Z⟩
 intro n5 f w_ hI
 obtain ⟨i_2,suf5,H3,rfl,hd5,hl5,hL5,l4,sf0,sf1,sf5,Z⟩:=ik hI5 hI
 refine W_seq (sq (mF sf5 rfl (mF sf0 rfl (L_len rfl Tryz.underlying22 rfl (slice_len (RP.mono _ h0 l4)) (L_lss rfl rfl rfl (nn (W_cond (b:=decide ((i_2 : Int) < (a.length : Int))) rfl (fun hc6=>?_) (fun hc6=>?_))))))))
 have hlt5:=of_decide_eq_true hc6
 rcases suf5 with _ | ⟨x_5,rest5⟩
 exact absurd hlt5 (by simp at hl5; omega)
 obtain ⟨o5,hB5,hL5⟩:=range_cons hL5
 rw [l_eqIntS_b1] at hB5
 have hix5:=drop_idx hd5
 refine W_skip (W_seq (W_block (W_seq ?_)))
 obtain ⟨x11,hx11,hB5⟩:=bind_some hB5
 refine W_drawS 8 [isV (v0),isV (I i_2),isEl RP.int x_5 0,isV (I x_5),isV (v1),isV (I i_2),isEl RP.int x11 0,isV (I x11)] [] [] ([]) [([],[]),([],[]),([],[]),([],[]),([],[]),([],[]),([],[]),([],[])] (S:=[]) Tryz_mix (by kernel_rfl) rfl (by kernel_rfl) (amF_cons (mono_V _) (amF_cons (mono_V _) (amF_cons (mono_el _ _ _) (amF_cons (mono_V _) (amF_cons (mono_V _) (amF_cons (mono_V _) (amF_cons (mono_el _ _ _) (amF_cons (mono_V _) amF_nil)))))))) Z ?_ (fun f w_ H16 hS16 hE16 hT16 Z=>?_)
 refine opsS_cons (fun f w_ _ _ s _ _ Z=>mF ((s 0 rfl).trans sf0) rfl (nO rfl rfl Z)) (opsS_cons (fun f w_ _ _ s _ _ Z=>mF ((s 5 rfl).trans sf5) rfl (nO rfl rfl Z)) (opsS_cons ?_ ?_))
 intro f w_ H16 X16 hS16 hE16 hP16 Z
 refine L_ix (r:=RP.int) rfl Tryz.underlying22 Tryz.sizeOf3 (hP16 0 17 rfl rfl) (RP.mono _ h0 (Le.trans l4 hE16)) (hP16 1 18 rfl rfl) hix5 (fun g25 o26 cs_g25 hrk_hat27 hat27=>?_)
 obtain rfl : _ = [_]:=hrk_hat27
 exact L_nil ⟨rfl,_,_,rfl,Le.refl _,fun _ _=>⟨_,_,_,rfl,rfl,hat27⟩,Z⟩
 refine opsS_cons ?_ ?_
 intro f w_ H16 X16 hS16 hE16 hP16 Z
 obtain ⟨g29,o29,cs29,hv29,hrk_hat29,hat29⟩:=(hP16 2 19 rfl rfl)
 obtain rfl : _ = [_]:=hrk_hat29
 refine L_ld rfl Tryz.isAgg3 hv29 (At.cell (AtH.at hat29 Z.sub) (j:=0) rfl) (L_nil ⟨rfl,_,_,rfl,Le.refl _,fun _ _=>rfl,Z⟩)
 refine opsS_cons (fun f w_ _ _ s _ _ Z=>mF ((s 1 rfl).trans sf1) rfl (nO rfl rfl Z)) (opsS_cons (fun f w_ _ _ s _ _ Z=>mF ((s 5 rfl).trans sf5) rfl (nO rfl rfl Z)) (opsS_cons ?_ ?_))
 intro f w_ H16 X16 hS16 hE16 hP16 Z
 refine L_ix (r:=RP.int) rfl Tryz.underlying22 Tryz.sizeOf3 (hP16 4 21 rfl rfl) (RP.mono _ h1 (Le.trans l4 hE16)) (hP16 5 22 rfl rfl) hx11 (fun g31 o32 cs_g31 hrk_hat33 hat33=>?_)
 obtain rfl : _ = [_]:=hrk_hat33
 exact L_nil ⟨rfl,_,_,rfl,Le.refl _,fun _ _=>⟨_,_,_,rfl,rfl,hat33⟩,Z⟩
 refine opsS_cons ?_ ?_
 intro f w_ H16 X16 hS16 hE16 hP16 Z
 obtain ⟨g35,o35,cs35,hv35,hrk_hat35,hat35⟩:=(hP16 6 23 rfl rfl)
 obtain rfl : _ = [_]:=hrk_hat35
 refine L_ld rfl Tryz.isAgg3 hv35 (At.cell (AtH.at hat35 Z.sub) (j:=0) rfl) (L_nil ⟨rfl,_,_,rfl,Le.refl _,fun _ _=>rfl,Z⟩)
 exact opsS_nil
 refine L_neq rfl (hT16 3 20 rfl rfl) (hT16 7 24 rfl rfl) (nn (W_cond (b:=(x_5 != x11)) rfl (fun hc37=>?_) (fun hc37=>?_)))
 have hB5:=(ite_t hc37).symm.trans hB5
 refine sq (aB rfl (nn (W_ret (retG1 (v1:=Bo false) Tryz.results37 rfl ?_))))
 obtain rfl:=so hB5
 obtain rfl:=so hL5
 obtain rfl:=so hF
 exact ⟨rfl,(Star.down Z (Le.trans l4 hE16) c0)⟩
 have hB5:=(ite_f hc37).symm.trans hB5
 refine W_skip (W_region (mF ((hS16 5 rfl).trans sf5) rfl (L_add rfl rfl rfl (aI rfl (nn ?_)))))
 obtain rfl:=so hB5
 show ∃ m,m < _∧I5 m _ _
 refine ⟨rest5.length,by simp,?_⟩
 exact ij hI5 ⟨i_2 + 1,rest5,H16,rfl,drop_next hd5,by simp at hl5; omega,hL5,(Le.trans l4 hE16),((hS16 0 rfl).trans sf0),((hS16 1 rfl).trans sf1),(Eq.trans rfl (congrArg (Value.int .i64) (i64_succ (n:=a.length) (by simp at hl5; omega) hlen5))),Z⟩
 rcases suf5 with _ | ⟨_,_⟩
 obtain rfl:=range_nil hL5
 refine W_exit (rj hR5 ⟨H3,rfl,l4,Z⟩)
 exact absurd (of_decide_eq_false hc6) (by simp at hl5; omega)
 intro f w_ hR
 obtain ⟨H3,rfl,l4,Z⟩:=rk hR5 hR
 refine sq (aB rfl (nn (W_ret (retG1 (v1:=Bo true) Tryz.results37 rfl ?_))))
 obtain rfl:=so hF
 exact ⟨rfl,(Star.down Z l4 c0)⟩
theorem l_eqIntSS_c {a : List (List Int)} {b : List (List Int)} {v0 : Value} {v1 : Value} {H : FH} {w : World} (Z : Star H w []) (h0 : (rS 22 (rS 3 RP.int)).rel H [v0] a) (h1 : (rS 22 (rS 3 RP.int)).rel H [v1] b) {r : Bool} (hF : l_eqIntSS a b = some r) :
 C Tryz.prog 131 #[v0,v1] w fun v w'=>v = Bo r∧Star H w' []:=by
 unfold l_eqIntSS at hF
 refine C_enter Tryz.func131 rfl Tryz.ntmps131 rfl (sq (aB rfl (nq (sq (mV v0 rfl (L_len rfl Tryz.underlying47 rfl (slice_len h0) (mV v1 rfl (L_len rfl Tryz.underlying47 rfl (slice_len h1) (L_neq rfl rfl rfl (nn (W_cond (b:=((a.length : Int) != (b.length : Int))) rfl (fun hc1=>?_) (fun hc1=>?_))))))))))))
 have hF:=(ite_t hc1).symm.trans hF
 refine sq (aB rfl (nn (W_ret (retG1 (v1:=Bo false) Tryz.results131 rfl ?_))))
 obtain rfl:=so hF
 exact ⟨rfl,Z⟩
 have hF:=(ite_f hc1).symm.trans hF
 refine W_skip (W_seq (sq (aI rfl (nn ?_))))
 have hlen5 : List.length a≤9223372036854775807:=len_le (slice_len h0)
 obtain ⟨j5,hL5,hF⟩:=bind_some hF
 obtain ⟨R5,hR5⟩:=exR fun f w_=>∃ H3 : FH,j5 = .nx ()∧Le H H3∧Star H3 w_ ([])
 refine W_join R5 ?_ ?_
 refine W_block ?_
 obtain ⟨I5,hI5⟩:=exI fun n f w_=>∃ i_2 : Nat,∃ suf5 : List (List Int),∃ H3 : FH,n = suf5.length∧List.drop i_2 a = suf5∧i_2 + suf5.length = a.length∧rangeL (l_eqIntSS_b1 b) suf5 i_2 () = some j5∧Le H H3∧f 0 = v0∧f 1 = v1∧f 5 = I i_2∧Star H3 w_ ([])
 refine W_loop I5 (n:=a.length) ?_ ?_
 exact ij hI5 ⟨0,a,H,rfl,rfl,Nat.zero_add _,hL5,(Le.refl _),rfl,rfl,rfl,Z⟩
 intro n5 f w_ hI
 obtain ⟨i_2,suf5,H3,rfl,hd5,hl5,hL5,l4,sf0,sf1,sf5,Z⟩:=ik hI5 hI
 refine W_seq (sq (mF sf5 rfl (mF sf0 rfl (L_len rfl Tryz.underlying47 rfl (slice_len (RP.mono _ h0 l4)) (L_lss rfl rfl rfl (nn (W_cond (b:=decide ((i_2 : Int) < (a.length : Int))) rfl (fun hc6=>?_) (fun hc6=>?_))))))))
 have hlt5:=of_decide_eq_true hc6
 rcases suf5 with _ | ⟨x_5,rest5⟩
 exact absurd hlt5 (by simp at hl5; omega)
 obtain ⟨o5,hB5,hL5⟩:=range_cons hL5
 rw [l_eqIntSS_b1] at hB5
 have hix5:=drop_idx hd5
 refine W_skip (W_seq (W_block (W_seq ?_)))
 obtain ⟨x11,hx11,hB5⟩:=bind_some hB5
 obtain ⟨x21,hx21,hB5⟩:=bind_some hB5
 refine W_drawS 8 [isV (v0),isV (I i_2),isEl (rS 3 RP.int) x_5 0,isData (rS 3 RP.int) x_5,isV (v1),isV (I i_2),isEl (rS 3 RP.int) x11 0,isData (rS 3 RP.int) x11] [] [] ([]) [([],[]),([],[]),([],[]),([],[]),([],[]),([],[]),([],[]),([],[])] (S:=[]) Tryz_mix (by kernel_rfl) rfl (by kernel_rfl) (amF_cons (mono_V _) (amF_cons (mono_V _) (amF_cons (mono_el _ _ _) (amF_cons (mono_data _ _) (amF_cons (mono_V _) (amF_cons (mono_V _) (amF_cons (mono_el _ _ _) (amF_cons (mono_data _ _) amF_nil)))))))) Z ?_ (fun f w_ H23 hS23 hE23 hT23 Z=>?_)
 refine opsS_cons (fun f w_ _ _ s _ _ Z=>mF ((s 0 rfl).trans sf0) rfl (nO rfl rfl Z)) (opsS_cons (fun f w_ _ _ s _ _ Z=>mF ((s 5 rfl).trans sf5) rfl (nO rfl rfl Z)) (opsS_cons ?_ ?_))
 intro f w_ H23 X23 hS23 hE23 hP23 Z
 refine L_ix (r:=(rS 3 RP.int)) rfl Tryz.underlying47 Tryz.sizeOf22 (hP23 0 17 rfl rfl) (RP.mono _ h0 (Le.trans l4 hE23)) (hP23 1 18 rfl rfl) hix5 (fun g32 o33 cs_g32 hrk_hat34 hat34=>?_)
 obtain ⟨u35,rfl,hu35⟩:=slice1 hrk_hat34
 exact L_nil ⟨rfl,_,_,rfl,Le.refl _,fun _ _=>⟨_,_,_,rfl,hrk_hat34,hat34⟩,Z⟩
 refine opsS_cons ?_ ?_
 intro f w_ H23 X23 hS23 hE23 hP23 Z
 obtain ⟨g36,o36,cs36,hv36,hrk_hat36,hat36⟩:=(hP23 2 19 rfl rfl)
 obtain ⟨u37,rfl,hu37⟩:=slice1 hrk_hat36
 refine L_ld rfl Tryz.isAgg22 hv36 (At.cell (AtH.at hat36 Z.sub) (j:=0) rfl) (L_nil ⟨rfl,_,_,rfl,Le.refl _,fun _ _=>hu37,Z⟩)
 refine opsS_cons (fun f w_ _ _ s _ _ Z=>mF ((s 1 rfl).trans sf1) rfl (nO rfl rfl Z)) (opsS_cons (fun f w_ _ _ s _ _ Z=>mF ((s 5 rfl).trans sf5) rfl (nO rfl rfl Z)) (opsS_cons ?_ ?_))
 intro f w_ H23 X23 hS23 hE23 hP23 Z
 refine L_ix (r:=(rS 3 RP.int)) rfl Tryz.underlying47 Tryz.sizeOf22 (hP23 4 21 rfl rfl) (RP.mono _ h1 (Le.trans l4 hE23)) (hP23 5 22 rfl rfl) hx11 (fun g38 o39 cs_g38 hrk_hat40 hat40=>?_)
 obtain ⟨u41,rfl,hu41⟩:=slice1 hrk_hat40
 exact L_nil ⟨rfl,_,_,rfl,Le.refl _,fun _ _=>⟨_,_,_,rfl,hrk_hat40,hat40⟩,Z⟩
 refine opsS_cons ?_ ?_
 intro f w_ H23 X23 hS23 hE23 hP23 Z
 obtain ⟨g42,o42,cs42,hv42,hrk_hat42,hat42⟩:=(hP23 6 23 rfl rfl)
 obtain ⟨u43,rfl,hu43⟩:=slice1 hrk_hat42
 refine L_ld rfl Tryz.isAgg22 hv42 (At.cell (AtH.at hat42 Z.sub) (j:=0) rfl) (L_nil ⟨rfl,_,_,rfl,Le.refl _,fun _ _=>hu43,Z⟩)
 exact opsS_nil
 have hd44 : (rS 3 RP.int).rel H23 [f 20] x_5:=(hT23 3 20 rfl rfl)
 have hd45 : (rS 3 RP.int).rel H23 [f 24] x11:=(hT23 7 24 rfl rfl)
 obtain ⟨H46b,l47,s48,z49,k50⟩:=Z.borrow
 refine L_call rfl Tryz.call37 (ops2 rfl rfl) (l_eqIntS_c (a:=x_5) (b:=x11) s48 (RP.mono _ hd44 l47) (RP.mono _ hd45 l47) hx21) ?_
 rintro _ w51 ⟨rfl,Z⟩
 have Z:=k50 Z c0
 refine L_not_ rfl rfl (nn (W_cond (b:=(!x21)) rfl (fun hc52=>?_) (fun hc52=>?_)))
 have hB5:=(ite_t hc52).symm.trans hB5
 refine sq (aB rfl (nn (W_ret (retG1 (v1:=Bo false) Tryz.results131 rfl ?_))))
 obtain rfl:=so hB5
 obtain rfl:=so hL5
 obtain rfl:=so hF
 exact ⟨rfl,(Star.down Z (Le.trans l4 hE23) c0)⟩
 have hB5:=(ite_f hc52).symm.trans hB5
 refine W_skip (W_region (mF ((hS23 5 rfl).trans sf5) rfl (L_add rfl rfl rfl (aI rfl (nn ?_)))))
 obtain rfl:=so hB5
 show ∃ m,m < _∧I5 m _ _
 refine ⟨rest5.length,by simp,?_⟩
 exact ij hI5 ⟨i_2 + 1,rest5,H23,rfl,drop_next hd5,by simp at hl5; omega,hL5,(Le.trans l4 hE23),((hS23 0 rfl).trans sf0),((hS23 1 rfl).trans sf1),(Eq.trans rfl (congrArg (Value.int .i64) (i64_succ (n:=a.length) (by simp at hl5; omega) hlen5))),Z⟩
 rcases suf5 with _ | ⟨_,_⟩
 obtain rfl:=range_nil hL5
 refine W_exit (rj hR5 ⟨H3,rfl,l4,Z⟩)
 exact absurd (of_decide_eq_false hc6) (by simp at hl5; omega)
 intro f w_ hR
 obtain ⟨H3,rfl,l4,Z⟩:=rk hR5 hR
 refine sq (aB rfl (nn (W_ret (retG1 (v1:=Bo true) Tryz.results131 rfl ?_))))
 obtain rfl:=so hF
 exact ⟨rfl,(Star.down Z l4 c0)⟩
theorem l_eqRule_c {a : Rule} {b : Rule} {v0_1 : Value} {v0_2 : Value} {v0_4 : Value} {v1_1 : Value} {v1_2 : Value} {v1_4 : Value} {H : FH} {w : World} (Z : Star H w []) (h0_1 : (rS 3 RP.int).rel H [v0_1] a.vars) (h0_2 : (rS 3 RP.int).rel H [v0_2] a.coefs) (h0_4 : (rS 22 (rS 3 RP.int)).rel H [v0_4] a.rows) (h1_1 : (rS 3 RP.int).rel H [v1_1] b.vars) (h1_2 : (rS 3 RP.int).rel H [v1_2] b.coefs) (h1_4 : (rS 22 (rS 3 RP.int)).rel H [v1_4] b.rows) {r : Bool} (hF : l_eqRule a b = some r) :
 C Tryz.prog 82 #[.agg #[I a.kind,v0_1,v0_2,I a.bound,v0_4],.agg #[I b.kind,v1_1,v1_2,I b.bound,v1_4]] w fun v w'=>v = Bo r∧Star H w' []:=by
 unfold l_eqRule at hF
 refine C_enter Tryz.func82 rfl Tryz.ntmps82 rfl (sq (L_box (v:=.agg #[I a.kind,v0_1,v0_2,I a.bound,v0_4]) (cs:=#[I a.kind,v0_1,v0_2,I a.bound,v0_4]) rfl rfl rfl Z (fun g5 w6 Z=>L_box (v:=.agg #[I b.kind,v1_1,v1_2,I b.bound,v1_4]) (cs:=#[I b.kind,v1_1,v1_2,I b.bound,v1_4]) rfl rfl rfl Z (fun g7 w8 Z=>aB rfl (nq (sq (fA 0 fa_49_0 rfl rfl (ldB 1 Z Tryz.isAgg3 rfl rfl rfl (fA 0 fa_49_0 rfl rfl (ldB 0 Z Tryz.isAgg3 rfl rfl rfl (L_neq rfl rfl rfl (nn (W_cond (b:=(a.kind != b.kind)) rfl (fun hc9=>?_) (fun hc9=>?_))))))))))))))
 have hF:=(ite_t hc9).symm.trans hF
 refine sq (aB rfl (nn (W_ret (retG1 (v1:=Bo false) Tryz.results82 rfl ?_))))
 obtain rfl:=so hF
 exact ⟨rfl,(Star.keepN 0 Z)⟩
 have hF:=(ite_f hc9).symm.trans hF
 refine W_skip (W_seq (W_seq ?_))
 obtain ⟨x15,hx15,hF⟩:=bind_some hF
 refine W_region (fA 1 fa_49_1 rfl rfl (ldB 1 Z Tryz.isAgg22 rfl rfl rfl (fA 1 fa_49_1 rfl rfl (ldB 0 Z Tryz.isAgg22 rfl rfl rfl ?_))))
 obtain ⟨H17b,l18,s19,z20,k21⟩:=Z.borrow
 refine L_call rfl Tryz.call37 (ops2 rfl rfl) (l_eqIntS_c (a:=a.vars) (b:=b.vars) s19 (RP.mono _ h0_1 l18) (RP.mono _ h1_1 l18) hx15) ?_
 rintro _ w22 ⟨rfl,Z⟩
 have Z:=k21 Z c0
 refine L_not_ rfl rfl (nn (W_cond (b:=(!x15)) rfl (fun hc23=>?_) (fun hc23=>?_)))
 have hF:=(ite_t hc23).symm.trans hF
 refine sq (aB rfl (nn (W_ret (retG1 (v1:=Bo false) Tryz.results82 rfl ?_))))
 obtain rfl:=so hF
 exact ⟨rfl,(Star.keepN 0 Z)⟩
 have hF:=(ite_f hc23).symm.trans hF
 refine W_skip (W_seq (W_seq ?_))
 obtain ⟨x29,hx29,hF⟩:=bind_some hF
 refine W_region (fA 2 fa_49_2 rfl rfl (ldB 1 Z Tryz.isAgg22 rfl rfl rfl (fA 2 fa_49_2 rfl rfl (ldB 0 Z Tryz.isAgg22 rfl rfl rfl ?_))))
 obtain ⟨H31b,l32,s33,z34,k35⟩:=Z.borrow
 refine L_call rfl Tryz.call37 (ops2 rfl rfl) (l_eqIntS_c (a:=a.coefs) (b:=b.coefs) s33 (RP.mono _ h0_2 l32) (RP.mono _ h1_2 l32) hx29) ?_
 rintro _ w36 ⟨rfl,Z⟩
 have Z:=k35 Z c0
 refine L_not_ rfl rfl (nn (W_cond (b:=(!x29)) rfl (fun hc37=>?_) (fun hc37=>?_)))
 have hF:=(ite_t hc37).symm.trans hF
 refine sq (aB rfl (nn (W_ret (retG1 (v1:=Bo false) Tryz.results82 rfl ?_))))
 obtain rfl:=so hF
 exact ⟨rfl,(Star.keepN 0 Z)⟩
 have hF:=(ite_f hc37).symm.trans hF
 refine W_skip (W_seq (sq (fA 3 fa_49_3 rfl rfl (ldB 1 Z Tryz.isAgg3 rfl rfl rfl (fA 3 fa_49_3 rfl rfl (ldB 0 Z Tryz.isAgg3 rfl rfl rfl (L_neq rfl rfl rfl (nn (W_cond (b:=(a.bound != b.bound)) rfl (fun hc38=>?_) (fun hc38=>?_))))))))))
 have hF:=(ite_t hc38).symm.trans hF
 refine sq (aB rfl (nn (W_ret (retG1 (v1:=Bo false) Tryz.results82 rfl ?_))))
 obtain rfl:=so hF
 exact ⟨rfl,(Star.keepN 0 Z)⟩
 have hF:=(ite_f hc38).symm.trans hF
 refine W_skip (W_seq (W_seq ?_))
 obtain ⟨x44,hx44,hF⟩:=bind_some hF
 refine W_region (fA 4 fa_49_4 rfl rfl (ldB 1 Z Tryz.isAgg47 rfl rfl rfl (fA 4 fa_49_4 rfl rfl (ldB 0 Z Tryz.isAgg47 rfl rfl rfl ?_))))
 obtain ⟨H46b,l47,s48,z49,k50⟩:=Z.borrow
 refine L_call rfl Tryz.call131 (ops2 rfl rfl) (l_eqIntSS_c (a:=a.rows) (b:=b.rows) s48 (RP.mono _ h0_4 l47) (RP.mono _ h1_4 l47) hx44) ?_
 rintro _ w51 ⟨rfl,Z⟩
 have Z:=k50 Z c0
 refine L_not_ rfl rfl (nn (W_cond (b:=(!x44)) rfl (fun hc52=>?_) (fun hc52=>?_)))
 have hF:=(ite_t hc52).symm.trans hF
 refine sq (aB rfl (nn (W_ret (retG1 (v1:=Bo false) Tryz.results82 rfl ?_))))
 obtain rfl:=so hF
 exact ⟨rfl,(Star.keepN 0 Z)⟩
 have hF:=(ite_f hc52).symm.trans hF
 refine W_skip (sq (aB rfl (nn (W_ret (retG1 (v1:=Bo true) Tryz.results82 rfl ?_)))))
 obtain rfl:=so hF
 exact ⟨rfl,(Star.keepN 0 Z)⟩
theorem l_eqRuleS_c {a : List Rule} {b : List Rule} {v0 : Value} {v1 : Value} {H : FH} {w : World} (Z : Star H w []) (h0 : (rS 49 (rRule 3 22)).rel H [v0] a) (h1 : (rS 49 (rRule 3 22)).rel H [v1] b) {r : Bool} (hF : l_eqRuleS a b = some r) :
 C Tryz.prog 38 #[v0,v1] w fun v w'=>v = Bo r∧Star H w' []:=by
 unfold l_eqRuleS at hF
 refine C_enter Tryz.func38 rfl Tryz.ntmps38 rfl (sq (aB rfl (nq (sq (mV v0 rfl (L_len rfl Tryz.underlying23 rfl (slice_len h0) (mV v1 rfl (L_len rfl Tryz.underlying23 rfl (slice_len h1) (L_neq rfl rfl rfl (nn (W_cond (b:=((a.length : Int) != (b.length : Int))) rfl (fun hc1=>?_) (fun hc1=>?_))))))))))))
 have hF:=(ite_t hc1).symm.trans hF
 refine sq (aB rfl (nn (W_ret (retG1 (v1:=Bo false) Tryz.results38 rfl ?_))))
 obtain rfl:=so hF
 exact ⟨rfl,Z⟩
 have hF:=(ite_f hc1).symm.trans hF
 refine W_skip (W_seq (sq (aI rfl (nn ?_))))
 have hlen5 : List.length a≤9223372036854775807:=len_le (slice_len h0)
 obtain ⟨j5,hL5,hF⟩:=bind_some hF
 obtain ⟨R5,hR5⟩:=exR fun f w_=>∃ H3 : FH,j5 = .nx ()∧Le H H3∧Star H3 w_ ([])
 refine W_join R5 ?_ ?_
 refine W_block ?_
 obtain ⟨I5,hI5⟩:=exI fun n f w_=>∃ i_2 : Nat,∃ suf5 : List Rule,∃ H3 : FH,n = suf5.length∧List.drop i_2 a = suf5∧i_2 + suf5.length = a.length∧rangeL (l_eqRuleS_b1 b) suf5 i_2 () = some j5∧Le H H3∧f 0 = v0∧f 1 = v1∧f 5 = I i_2∧Star H3 w_ ([])
 refine W_loop I5 (n:=a.length) ?_ ?_
 exact ij hI5 ⟨0,a,H,rfl,rfl,Nat.zero_add _,hL5,(Le.refl _),rfl,rfl,rfl,Z⟩
 intro n5 f w_ hI
 obtain ⟨i_2,suf5,H3,rfl,hd5,hl5,hL5,l4,sf0,sf1,sf5,Z⟩:=ik hI5 hI
 refine W_seq (sq (mF sf5 rfl (mF sf0 rfl (L_len rfl Tryz.underlying23 rfl (slice_len (RP.mono _ h0 l4)) (L_lss rfl rfl rfl (nn (W_cond (b:=decide ((i_2 : Int) < (a.length : Int))) rfl (fun hc6=>?_) (fun hc6=>?_))))))))
 have hlt5:=of_decide_eq_true hc6
 rcases suf5 with _ | ⟨x_5,rest5⟩
 exact absurd hlt5 (by simp at hl5; omega)
 obtain ⟨o5,hB5,hL5⟩:=range_cons hL5
 rw [l_eqRuleS_b1] at hB5
 have hix5:=drop_idx hd5
 refine W_skip (W_seq (W_block (W_seq ?_)))
 obtain ⟨x11,hx11,hB5⟩:=bind_some hB5
 obtain ⟨x21,hx21,hB5⟩:=bind_some hB5
 refine W_drawS 8 [isV (v0),isV (I i_2),isEl (rRule 3 22) x_5 0,exD (isData (rS 3 RP.int) x_5.vars) fun u_1=>exD (isData (rS 3 RP.int) x_5.coefs) fun u_2=>exD (isData (rS 22 (rS 3 RP.int)) x_5.rows) fun u_4=>isV (.agg #[I x_5.kind,u_1,u_2,I x_5.bound,u_4]),isV (v1),isV (I i_2),isEl (rRule 3 22) x11 0,exD (isData (rS 3 RP.int) x11.vars) fun u_1=>exD (isData (rS 3 RP.int) x11.coefs) fun u_2=>exD (isData (rS 22 (rS 3 RP.int)) x11.rows) fun u_4=>isV (.agg #[I x11.kind,u_1,u_2,I x11.bound,u_4])] [] [] ([]) [([],[]),([],[]),([],[]),([],[]),([],[]),([],[]),([],[]),([],[])] (S:=[]) Tryz_mix (by kernel_rfl) rfl (by kernel_rfl) (amF_cons (mono_V _) (amF_cons (mono_V _) (amF_cons (mono_el _ _ _) (amF_cons (mono_exD (mono_data _ _) fun _=>mono_exD (mono_data _ _) fun _=>mono_exD (mono_data _ _) fun _=>mono_V _) (amF_cons (mono_V _) (amF_cons (mono_V _) (amF_cons (mono_el _ _ _) (amF_cons (mono_exD (mono_data _ _) fun _=>mono_exD (mono_data _ _) fun _=>mono_exD (mono_data _ _) fun _=>mono_V _) amF_nil)))))))) Z ?_ (fun f w_ H23 hS23 hE23 hT23 Z=>?_)
 refine opsS_cons (fun f w_ _ _ s _ _ Z=>mF ((s 0 rfl).trans sf0) rfl (nO rfl rfl Z)) (opsS_cons (fun f w_ _ _ s _ _ Z=>mF ((s 5 rfl).trans sf5) rfl (nO rfl rfl Z)) (opsS_cons ?_ ?_))
 intro f w_ H23 X23 hS23 hE23 hP23 Z
 refine L_ix (r:=(rRule 3 22)) rfl Tryz.underlying23 Tryz.sizeOf49 (hP23 0 17 rfl rfl) (RP.mono _ h0 (Le.trans l4 hE23)) (hP23 1 18 rfl rfl) hix5 (fun g32 o33 cs_g32 hrk_hat34 hat34=>?_)
 obtain ⟨u35_0,u35_1,u35_2,rfl,hu35_0,hu35_1,hu35_2⟩:=rRule_iff.1 hrk_hat34
 exact L_nil ⟨rfl,_,_,rfl,Le.refl _,fun _ _=>⟨_,_,_,rfl,hrk_hat34,hat34⟩,Z⟩
 refine opsS_cons ?_ ?_
 intro f w_ H23 X23 hS23 hE23 hP23 Z
 obtain ⟨g36,o36,cs36,hv36,hrk_hat36,hat36⟩:=(hP23 2 19 rfl rfl)
 obtain ⟨u37_0,u37_1,u37_2,rfl,hu37_0,hu37_1,hu37_2⟩:=rRule_iff.1 hrk_hat36
 refine L_lda (cs:=[I x_5.kind,u37_0,u37_1,I x_5.bound,u37_2]) rfl Tryz.isAgg49 Tryz.sizeOf49 hv36 (At.sub (AtH.at hat36 Z.sub) 0 5) rfl (L_nil ⟨rfl,_,_,rfl,Le.refl _,fun _ _=>⟨_,hu37_0,_,hu37_1,_,hu37_2,rfl⟩,Z⟩)
 refine opsS_cons (fun f w_ _ _ s _ _ Z=>mF ((s 1 rfl).trans sf1) rfl (nO rfl rfl Z)) (opsS_cons (fun f w_ _ _ s _ _ Z=>mF ((s 5 rfl).trans sf5) rfl (nO rfl rfl Z)) (opsS_cons ?_ ?_))
 intro f w_ H23 X23 hS23 hE23 hP23 Z
 refine L_ix (r:=(rRule 3 22)) rfl Tryz.underlying23 Tryz.sizeOf49 (hP23 4 21 rfl rfl) (RP.mono _ h1 (Le.trans l4 hE23)) (hP23 5 22 rfl rfl) hx11 (fun g38 o39 cs_g38 hrk_hat40 hat40=>?_)
 obtain ⟨u41_0,u41_1,u41_2,rfl,hu41_0,hu41_1,hu41_2⟩:=rRule_iff.1 hrk_hat40
 exact L_nil ⟨rfl,_,_,rfl,Le.refl _,fun _ _=>⟨_,_,_,rfl,hrk_hat40,hat40⟩,Z⟩
 refine opsS_cons ?_ ?_
 intro f w_ H23 X23 hS23 hE23 hP23 Z
 obtain ⟨g42,o42,cs42,hv42,hrk_hat42,hat42⟩:=(hP23 6 23 rfl rfl)
 obtain ⟨u43_0,u43_1,u43_2,rfl,hu43_0,hu43_1,hu43_2⟩:=rRule_iff.1 hrk_hat42
 refine L_lda (cs:=[I x11.kind,u43_0,u43_1,I x11.bound,u43_2]) rfl Tryz.isAgg49 Tryz.sizeOf49 hv42 (At.sub (AtH.at hat42 Z.sub) 0 5) rfl (L_nil ⟨rfl,_,_,rfl,Le.refl _,fun _ _=>⟨_,hu43_0,_,hu43_1,_,hu43_2,rfl⟩,Z⟩)
 exact opsS_nil
 obtain ⟨u44_1,hu44_1,u44_2,hu44_2,u44_4,hu44_4,hv44⟩:=(hT23 3 20 rfl rfl)
 obtain ⟨u45_1,hu45_1,u45_2,hu45_2,u45_4,hu45_4,hv45⟩:=(hT23 7 24 rfl rfl)
 obtain ⟨H46b,l47,s48,z49,k50⟩:=Z.borrow
 refine L_call rfl Tryz.call82 (ops2 hv44 hv45) (l_eqRule_c (a:=x_5) (b:=x11) s48 (RP.mono _ hu44_1 l47) (RP.mono _ hu44_2 l47) (RP.mono _ hu44_4 l47) (RP.mono _ hu45_1 l47) (RP.mono _ hu45_2 l47) (RP.mono _ hu45_4 l47) hx21) ?_
 rintro _ w51 ⟨rfl,Z⟩
 have Z:=k50 Z c0
 refine L_not_ rfl rfl (nn (W_cond (b:=(!x21)) rfl (fun hc52=>?_) (fun hc52=>?_)))
 have hB5:=(ite_t hc52).symm.trans hB5
 refine sq (aB rfl (nn (W_ret (retG1 (v1:=Bo false) Tryz.results38 rfl ?_))))
 obtain rfl:=so hB5
 obtain rfl:=so hL5
 obtain rfl:=so hF
 exact ⟨rfl,(Star.down Z (Le.trans l4 hE23) c0)⟩
 have hB5:=(ite_f hc52).symm.trans hB5
 refine W_skip (W_region (mF ((hS23 5 rfl).trans sf5) rfl (L_add rfl rfl rfl (aI rfl (nn ?_)))))
 obtain rfl:=so hB5
 show ∃ m,m < _∧I5 m _ _
 refine ⟨rest5.length,by simp,?_⟩
 exact ij hI5 ⟨i_2 + 1,rest5,H23,rfl,drop_next hd5,by simp at hl5; omega,hL5,(Le.trans l4 hE23),((hS23 0 rfl).trans sf0),((hS23 1 rfl).trans sf1),(Eq.trans rfl (congrArg (Value.int .i64) (i64_succ (n:=a.length) (by simp at hl5; omega) hlen5))),Z⟩
 rcases suf5 with _ | ⟨_,_⟩
 obtain rfl:=range_nil hL5
 refine W_exit (rj hR5 ⟨H3,rfl,l4,Z⟩)
 exact absurd (of_decide_eq_false hc6) (by simp at hl5; omega)
 intro f w_ hR
 obtain ⟨H3,rfl,l4,Z⟩:=rk hR5 hR
 refine sq (aB rfl (nn (W_ret (retG1 (v1:=Bo true) Tryz.results38 rfl ?_))))
 obtain rfl:=so hF
 exact ⟨rfl,(Star.down Z l4 c0)⟩
theorem l_eqModel_c {a : Model} {b : Model} {v0_0 : Value} {v0_1 : Value} {v1_0 : Value} {v1_1 : Value} {H : FH} {w : World} (Z : Star H w []) (h0_0 : (rS 3 RP.int).rel H [v0_0] a.sizes) (h0_1 : (rS 49 (rRule 3 22)).rel H [v0_1] a.rules) (h1_0 : (rS 3 RP.int).rel H [v1_0] b.sizes) (h1_1 : (rS 49 (rRule 3 22)).rel H [v1_1] b.rules) {r : Bool} (hF : l_eqModel a b = some r) :
 C Tryz.prog 9 #[.agg #[v0_0,v0_1],.agg #[v1_0,v1_1]] w fun v w'=>v = Bo r∧Star H w' []:=by
 unfold l_eqModel at hF
 refine C_enter Tryz.func9 rfl Tryz.ntmps9 rfl (sq (L_box (v:=.agg #[v0_0,v0_1]) (cs:=#[v0_0,v0_1]) rfl rfl rfl Z (fun g5 w6 Z=>L_box (v:=.agg #[v1_0,v1_1]) (cs:=#[v1_0,v1_1]) rfl rfl rfl Z (fun g7 w8 Z=>aB rfl (nq (W_seq ?_))))))
 obtain ⟨x14,hx14,hF⟩:=bind_some hF
 refine W_region (fA 0 fa_25_0 rfl rfl (ldB 1 Z Tryz.isAgg22 rfl rfl rfl (fA 0 fa_25_0 rfl rfl (ldB 0 Z Tryz.isAgg22 rfl rfl rfl ?_))))
 obtain ⟨H16b,l17,s18,z19,k20⟩:=Z.borrow
 refine L_call rfl Tryz.call37 (ops2 rfl rfl) (l_eqIntS_c (a:=a.sizes) (b:=b.sizes) s18 (RP.mono _ h0_0 l17) (RP.mono _ h1_0 l17) hx14) ?_
 rintro _ w21 ⟨rfl,Z⟩
 have Z:=k20 Z c0
 refine L_not_ rfl rfl (nn (W_cond (b:=(!x14)) rfl (fun hc22=>?_) (fun hc22=>?_)))
 have hF:=(ite_t hc22).symm.trans hF
 refine sq (aB rfl (nn (W_ret (retG1 (v1:=Bo false) Tryz.results9 rfl ?_))))
 obtain rfl:=so hF
 exact ⟨rfl,(Star.keepN 0 Z)⟩
 have hF:=(ite_f hc22).symm.trans hF
 refine W_skip (W_seq (W_seq ?_))
 obtain ⟨x28,hx28,hF⟩:=bind_some hF
 refine W_region (fA 1 fa_25_1 rfl rfl (ldB 1 Z Tryz.isAgg23 rfl rfl rfl (fA 1 fa_25_1 rfl rfl (ldB 0 Z Tryz.isAgg23 rfl rfl rfl ?_))))
 obtain ⟨H30b,l31,s32,z33,k34⟩:=Z.borrow
 refine L_call rfl Tryz.call38 (ops2 rfl rfl) (l_eqRuleS_c (a:=a.rules) (b:=b.rules) s32 (RP.mono _ h0_1 l31) (RP.mono _ h1_1 l31) hx28) ?_
 rintro _ w35 ⟨rfl,Z⟩
 have Z:=k34 Z c0
 refine L_not_ rfl rfl (nn (W_cond (b:=(!x28)) rfl (fun hc36=>?_) (fun hc36=>?_)))
 have hF:=(ite_t hc36).symm.trans hF
 refine sq (aB rfl (nn (W_ret (retG1 (v1:=Bo false) Tryz.results9 rfl ?_))))
 obtain rfl:=so hF
 exact ⟨rfl,(Star.keepN 0 Z)⟩
 have hF:=(ite_f hc36).symm.trans hF
 refine W_skip (sq (aB rfl (nn (W_ret (retG1 (v1:=Bo true) Tryz.results9 rfl ?_)))))
 obtain rfl:=so hF
 exact ⟨rfl,(Star.keepN 0 Z)⟩
theorem l_markIntS_c {fu : Nat} {a : List Int} {k : Int} {v0 : Value} {H : FH} {w : World} (Z : Star H w [oF 3 RP.int v0 a]) {r : Int × (List Int)} (hF : l_markIntS fu a k = some r) :
 C Tryz.prog 39 #[v0,I k] w fun v w'=>v = I r.1∧Star H w' [oF 3 RP.int v0 r.2]:=by
 unfold l_markIntS at hF
 refine C_enter Tryz.func39 rfl Tryz.ntmps39 rfl (sq (aI rfl (nq (sq (aI rfl (nn ?_))))))
 obtain ⟨j8,hL8,hF⟩:=bind_some hF
 obtain ⟨R8,hR8⟩:=exR fun f w_=>∃ a_5 : List Int,∃ k_6 : Int,∃ i_7 : Int,j8 = .nx (a_5,k_6,i_7)∧f 1 = I k_6∧Star H w_ ([oF 3 RP.int v0 a_5])
 refine W_join R8 ?_ ?_
 refine W_block ?_
 obtain ⟨I8,hI8⟩:=exI fun n f w_=>∃ a_5 : List Int,∃ k_6 : Int,∃ i_7 : Int,whileL l_markIntS_b1 n (a_5,k_6,i_7) = some j8∧f 0 = v0∧f 1 = I k_6∧f 5 = I i_7∧Star H w_ ([oF 3 RP.int v0 a_5])
 refine W_loop I8 (n:=fu) ?_ ?_
 exact ij hI8 ⟨a,k,0,hL8,rfl,rfl,rfl,Z⟩
 intro n8 f w_ hI
 obtain ⟨a_5,k_6,i_7,hL8,sf0,sf1,sf5,Z⟩:=ik hI8 hI
 rcases n8 with _ | n8
 exact (while_zero hL8).elim
 obtain ⟨o8,hB8,hL8⟩:=while_succ hL8
 rw [l_markIntS_b1] at hB8
 refine W_seq (sq (mF sf5 rfl (mF sf0 rfl (L_len rfl Tryz.underlying22 rfl (Star.len 0 Z rfl) (L_lss rfl rfl rfl (nn (W_cond (b:=decide (i_7 < (a_5.length : Int))) rfl (fun hc9=>?_) (fun hc9=>?_))))))))
 have hB8:=(ite_t hc9).symm.trans hB8
 refine W_skip (W_seq (W_block (W_seq ?_)))
 obtain ⟨x10,hx10,hB8⟩:=bind_some hB8
 refine W_region (mF sf0 rfl (mF sf5 rfl (mF sf1 rfl ?_)))
 obtain ⟨g14,cap_g14,hv15,_,_⟩:=Star.row 0 Z rfl hx10
 refine L_ixO (R:=(OR.frz RP.int)) (tb:=0) 0 rfl Tryz.underlying22 Tryz.sizeOf3 rfl hv15 (by first | rfl | simp) rfl hx10 ?_
 have Z:=Star.addF (r:=RP.int) (cs:=[I k_6]) (x:=k_6) Z rfl
 refine L_stE1 (u:=I k_6) rfl Tryz.sizeOf3 rfl rfl rfl hv15 Z hx10 (fun w16 Z=>?_)
 refine nn (W_region (mF sf1 rfl (L_add rfl rfl rfl (aI rfl (nn (W_region (mF sf5 rfl (L_add rfl rfl rfl (aI rfl (nn ?_))))))))))
 obtain rfl:=so hB8
 show ∃ m,m < _∧I8 m _ _
 refine ⟨n8,Nat.lt_succ_self _,?_⟩
 exact ij hI8 ⟨(a_5.set (Int.toNat i_7) k_6),i64 (k_6 + 1),i64 (i_7 + 1),hL8,sf0,rfl,rfl,Z⟩
 have hB8:=(ite_f hc9).symm.trans hB8
 refine W_exit ?_
 obtain rfl:=so hB8
 obtain rfl:=so hL8
 exact rj hR8 ⟨a_5,k_6,i_7,rfl,sf1,Z⟩
 intro f w_ hR
 obtain ⟨a_5,k_6,i_7,rfl,sf1,Z⟩:=rk hR8 hR
 refine sq (mF sf1 rfl (aI rfl (nn (W_ret (retG1 (v1:=I k_6) Tryz.results39 rfl ?_)))))
 obtain rfl:=so hF
 exact ⟨rfl,Z⟩
theorem l_markIntSS_c {fu : Nat} {a : List (List Int)} {k : Int} {v0 : Value} {H : FH} {w : World} (Z : Star H w [own (OR.ownS 22 (OR.ownS 3 (OR.frz RP.int))) [v0] a]) {r : Int × (List (List Int))} (hF : l_markIntSS fu a k = some r) :
 C Tryz.prog 83 #[v0,I k] w fun v w'=>v = I r.1∧Star H w' [own (OR.ownS 22 (OR.ownS 3 (OR.frz RP.int))) [v0] r.2]:=by
 unfold l_markIntSS at hF
 refine C_enter Tryz.func83 rfl Tryz.ntmps83 rfl (sq (aI rfl (nq (sq (aI rfl (nn ?_))))))
 obtain ⟨j8,hL8,hF⟩:=bind_some hF
 obtain ⟨R8,hR8⟩:=exR fun f w_=>∃ a_5 : List (List Int),∃ k_6 : Int,∃ i_7 : Int,j8 = .nx (a_5,k_6,i_7)∧f 1 = I k_6∧Star H w_ ([own (OR.ownS 22 (OR.ownS 3 (OR.frz RP.int))) [v0] a_5])
 refine W_join R8 ?_ ?_
 refine W_block ?_
 obtain ⟨I8,hI8⟩:=exI fun n f w_=>∃ a_5 : List (List Int),∃ k_6 : Int,∃ i_7 : Int,whileL (l_markIntSS_b1 fu) n (a_5,k_6,i_7) = some j8∧f 0 = v0∧f 1 = I k_6∧f 5 = I i_7∧Star H w_ ([own (OR.ownS 22 (OR.ownS 3 (OR.frz RP.int))) [v0] a_5])
 refine W_loop I8 (n:=fu) ?_ ?_
 exact ij hI8 ⟨a,k,0,hL8,rfl,rfl,rfl,Z⟩
 intro n8 f w_ hI
 obtain ⟨a_5,k_6,i_7,hL8,sf0,sf1,sf5,Z⟩:=ik hI8 hI
 rcases n8 with _ | n8
 exact (while_zero hL8).elim
 obtain ⟨o8,hB8,hL8⟩:=while_succ hL8
 rw [l_markIntSS_b1] at hB8
 refine W_seq (sq (mF sf5 rfl (mF sf0 rfl (L_len rfl Tryz.underlying47 rfl (Star.len 0 Z rfl) (L_lss rfl rfl rfl (nn (W_cond (b:=decide (i_7 < (a_5.length : Int))) rfl (fun hc9=>?_) (fun hc9=>?_))))))))
 have hB8:=(ite_t hc9).symm.trans hB8
 refine W_skip (W_seq (W_block ?_))
 obtain ⟨x10,hx10,hB8⟩:=bind_some hB8
 obtain ⟨x20,hx20,hB8⟩:=bind_some hB8
 refine W_region (mF sf0 rfl (mF sf5 rfl ?_))
 obtain ⟨g22,cap_g22,hv23,_,_⟩:=Star.row 0 Z rfl hx10
 refine L_ixO (R:=(OR.ownS 3 (OR.frz RP.int))) (tb:=0) 0 rfl Tryz.underlying47 Tryz.sizeOf22 rfl hv23 (by first | rfl | simp) rfl hx10 ?_
 obtain ⟨cs24,Z,hat24⟩:=Star.focus Z hx10
 have hat24:=hat24 _ _ _ hv23
 obtain ⟨u24_0,rfl⟩:=own1 rfl Z
 refine L_ld rfl Tryz.isAgg22 rfl (At.cell hat24 (j:=0) rfl) (mF sf1 rfl ?_)
 obtain ⟨H26b,l27,s28,z29,k30⟩:=Z.lend [_]
 refine L_call rfl Tryz.call39 (ops2 rfl rfl) (l_markIntS_c (a:=x10) (k:=k_6) s28 hx20) ?_
 rintro _ w31 ⟨rfl,Z⟩
 have Z:=k30 Z (co closed_int c0)
 refine aI rfl (nn ?_)
 have Z:=Star.unfocus (x':=x20.2) (idx_some hx10).2.2 Z
 refine W_region (mF sf5 rfl (L_add rfl rfl rfl (aI rfl (nn ?_))))
 obtain rfl:=so hB8
 show ∃ m,m < _∧I8 m _ _
 refine ⟨n8,Nat.lt_succ_self _,?_⟩
 exact ij hI8 ⟨(a_5.set (Int.toNat i_7) x20.2),x20.1,i64 (i_7 + 1),hL8,sf0,rfl,rfl,Z⟩
 have hB8:=(ite_f hc9).symm.trans hB8
 refine W_exit ?_
 obtain rfl:=so hB8
 obtain rfl:=so hL8
 exact rj hR8 ⟨a_5,k_6,i_7,rfl,sf1,Z⟩
 intro f w_ hR
 obtain ⟨a_5,k_6,i_7,rfl,sf1,Z⟩:=rk hR8 hR
 refine sq (mF sf1 rfl (aI rfl (nn (W_ret (retG1 (v1:=I k_6) Tryz.results83 rfl ?_)))))
 obtain rfl:=so hF
 exact ⟨rfl,Z⟩
theorem l_markRuleS_c {fu : Nat} {a : List Rule} {k : Int} {v0 : Value} {H : FH} {w : World} (Z : Star H w [oS 49 (oRule 3 22) v0 a]) {r : Int × (List Rule)} (hF : l_markRuleS fu a k = some r) :
 C Tryz.prog 40 #[v0,I k] w fun v w'=>v = I r.1∧Star H w' [oS 49 (oRule 3 22) v0 r.2]:=by
 unfold l_markRuleS at hF
 refine C_enter Tryz.func40 rfl Tryz.ntmps40 rfl (sq (aI rfl (nq (sq (aI rfl (nn ?_))))))
 obtain ⟨j8,hL8,hF⟩:=bind_some hF
 obtain ⟨R8,hR8⟩:=exR fun f w_=>∃ a_5 : List Rule,∃ k_6 : Int,∃ i_7 : Int,j8 = .nx (a_5,k_6,i_7)∧f 1 = I k_6∧Star H w_ ([oS 49 (oRule 3 22) v0 a_5])
 refine W_join R8 ?_ ?_
 refine W_block ?_
 obtain ⟨I8,hI8⟩:=exI fun n f w_=>∃ a_5 : List Rule,∃ k_6 : Int,∃ i_7 : Int,whileL (l_markRuleS_b1 fu) n (a_5,k_6,i_7) = some j8∧f 0 = v0∧f 1 = I k_6∧f 5 = I i_7∧Star H w_ ([oS 49 (oRule 3 22) v0 a_5])
 refine W_loop I8 (n:=fu) ?_ ?_
 exact ij hI8 ⟨a,k,0,hL8,rfl,rfl,rfl,Z⟩
 intro n8 f w_ hI
 obtain ⟨a_5,k_6,i_7,hL8,sf0,sf1,sf5,Z⟩:=ik hI8 hI
 rcases n8 with _ | n8
 exact (while_zero hL8).elim
 obtain ⟨o8,hB8,hL8⟩:=while_succ hL8
 rw [l_markRuleS_b1] at hB8
 refine W_seq (sq (mF sf5 rfl (mF sf0 rfl (L_len rfl Tryz.underlying23 rfl (Star.len 0 Z rfl) (L_lss rfl rfl rfl (nn (W_cond (b:=decide (i_7 < (a_5.length : Int))) rfl (fun hc9=>?_) (fun hc9=>?_))))))))
 have hB8:=(ite_t hc9).symm.trans hB8
 refine W_skip (W_seq (W_block (W_seq ?_)))
 obtain ⟨x10,hx10,hB8⟩:=bind_some hB8
 refine W_region (mF sf0 rfl (mF sf5 rfl (mF sf1 rfl ?_)))
 obtain ⟨g14,cap_g14,hv15,_,_⟩:=Star.row 0 Z rfl hx10
 refine L_ixO (R:=(oRule 3 22)) (tb:=0) 0 rfl Tryz.underlying23 Tryz.sizeOf49 rfl hv15 (by first | rfl | simp) rfl hx10 (fA (Int.toNat i_7 * 5 + 0) fa_49_0 rfl rfl (L_stF (j:=0) (u:=I k_6) (z:={ x10 with kind:=k_6 }) rfl Tryz.sizeOf3 rfl rfl rfl rfl hv15 Z hx10 fld_oRule_0 (fun w16 Z=>ns (mF sf1 rfl (L_add rfl rfl rfl (aI rfl (nq ?_)))))))
 obtain ⟨x17,hx17,hB8⟩:=bind_some hB8
 obtain ⟨x27,hx27,hB8⟩:=bind_some hB8
 refine W_region (mF sf0 rfl (mF sf5 rfl (L_ixO (R:=(oRule 3 22)) (tb:=0) 0 rfl Tryz.underlying23 Tryz.sizeOf49 rfl hv15 (by first | rfl | simp) rfl hx17 (fA (Int.toNat i_7 * 5 + 1) fa_49_1 rfl rfl ?_))))
 obtain ⟨cs29,Z,hat29⟩:=Star.focus Z hx17
 have hat29:=hat29 _ _ _ hv15
 obtain ⟨u29_0,u29_1,u29_2,rfl,Z⟩:=oRule_open Z
 refine L_ld rfl Tryz.isAgg22 rfl (At.cell hat29 (j:=1) rfl) (mI rfl ?_)
 obtain ⟨H33b,l34,s35,z36,k37⟩:=Z.lend [_]
 refine L_call rfl Tryz.call39 (ops2 rfl rfl) (l_markIntS_c (a:=x17.vars) (k:=i64 (k_6 + 1)) s35 hx27) ?_
 rintro _ w38 ⟨rfl,Z⟩
 have Z:=k37 Z (co closed_int c0)
 refine aI rfl (nq ?_)
 have Z:=oRule_close (r:=({ kind:=x17.kind,vars:=x27.2,coefs:=x17.coefs,bound:=x17.bound,rows:=x17.rows } : Rule)) Z
 have Z:=Star.unfocus (x':=({ kind:=x17.kind,vars:=x27.2,coefs:=x17.coefs,bound:=x17.bound,rows:=x17.rows } : Rule)) (idx_some hx17).2.2 Z
 obtain ⟨x39,hx39,hB8⟩:=bind_some hB8
 obtain ⟨x49,hx49,hB8⟩:=bind_some hB8
 refine W_region (mF sf0 rfl (mF sf5 rfl (L_ixO (R:=(oRule 3 22)) (tb:=0) 0 rfl Tryz.underlying23 Tryz.sizeOf49 rfl hv15 (by first | rfl | simp) rfl hx39 (fA (Int.toNat i_7 * 5 + 2) fa_49_2 rfl rfl ?_))))
 obtain ⟨cs51,Z,hat51⟩:=Star.focus Z hx39
 have hat51:=hat51 _ _ _ hv15
 obtain ⟨u51_0,u51_1,u51_2,rfl,Z⟩:=oRule_open Z
 refine L_ld rfl Tryz.isAgg22 rfl (At.cell hat51 (j:=2) rfl) (mI rfl ?_)
 have Z:=Z.get 1 rfl
 obtain ⟨H55b,l56,s57,z58,k59⟩:=Z.lend [_]
 refine L_call rfl Tryz.call39 (ops2 rfl rfl) (l_markIntS_c (a:=x39.coefs) (k:=x27.1) s57 hx49) ?_
 rintro _ w60 ⟨rfl,Z⟩
 have Z:=k59 Z (co closed_int c0)
 refine aI rfl (nq ?_)
 have Z:=Z.gets [3,3,2,3] rfl
 have Z:=oRule_close (r:=({ kind:=x39.kind,vars:=x39.vars,coefs:=x49.2,bound:=x39.bound,rows:=x39.rows } : Rule)) Z
 have Z:=Star.unfocus (x':=({ kind:=x39.kind,vars:=x39.vars,coefs:=x49.2,bound:=x39.bound,rows:=x39.rows } : Rule)) (idx_some hx39).2.2 Z
 obtain ⟨x61,hx61,hB8⟩:=bind_some hB8
 refine W_region (mF sf0 rfl (mF sf5 rfl (mI rfl (L_ixO (R:=(oRule 3 22)) (tb:=0) 0 rfl Tryz.underlying23 Tryz.sizeOf49 rfl hv15 (by first | rfl | simp) rfl hx61 (fA (Int.toNat i_7 * 5 + 3) fa_49_3 rfl rfl (L_stF (j:=3) (u:=I x49.1) (z:={ x61 with bound:=x49.1 }) rfl Tryz.sizeOf3 rfl rfl rfl rfl hv15 Z hx61 fld_oRule_3 (fun w63 Z=>ns (mI rfl (L_add rfl rfl rfl (aI rfl (nn ?_)))))))))))
 obtain ⟨x64,hx64,hB8⟩:=bind_some hB8
 obtain ⟨x74,hx74,hB8⟩:=bind_some hB8
 refine W_region (mF sf0 rfl (mF sf5 rfl (L_ixO (R:=(oRule 3 22)) (tb:=0) 0 rfl Tryz.underlying23 Tryz.sizeOf49 rfl hv15 (by first | rfl | simp) rfl hx64 (fA (Int.toNat i_7 * 5 + 4) fa_49_4 rfl rfl ?_))))
 obtain ⟨cs76,Z,hat76⟩:=Star.focus Z hx64
 have hat76:=hat76 _ _ _ hv15
 obtain ⟨u76_0,u76_1,u76_2,rfl,Z⟩:=oRule_open Z
 refine L_ld rfl Tryz.isAgg47 rfl (At.cell hat76 (j:=4) rfl) (mI rfl ?_)
 have Z:=Z.get 2 rfl
 obtain ⟨H80b,l81,s82,z83,k84⟩:=Z.lend [_]
 refine L_call rfl Tryz.call83 (ops2 rfl rfl) (l_markIntSS_c (a:=x64.rows) (k:=i64 (x49.1 + 1)) s82 hx74) ?_
 rintro _ w85 ⟨rfl,Z⟩
 have Z:=k84 Z (cc (closed_own (OR.closed_ownS (OR.closed_ownS closed_int)) _ _) c0)
 refine aI rfl (nn ?_)
 have Z:=Z.gets [3,1,3,3] rfl
 have Z:=oRule_close (r:=({ kind:=x64.kind,vars:=x64.vars,coefs:=x64.coefs,bound:=x64.bound,rows:=x74.2 } : Rule)) Z
 have Z:=Star.unfocus (x':=({ kind:=x64.kind,vars:=x64.vars,coefs:=x64.coefs,bound:=x64.bound,rows:=x74.2 } : Rule)) (idx_some hx64).2.2 Z
 refine W_region (mF sf5 rfl (L_add rfl rfl rfl (aI rfl (nn ?_))))
 obtain rfl:=so hB8
 show ∃ m,m < _∧I8 m _ _
 refine ⟨n8,Nat.lt_succ_self _,?_⟩
 exact ij hI8 ⟨(((((a_5.set (Int.toNat i_7) ({ x10 with kind:=k_6 })).set (Int.toNat i_7) ({ kind:=x17.kind,vars:=x27.2,coefs:=x17.coefs,bound:=x17.bound,rows:=x17.rows } : Rule)).set (Int.toNat i_7) ({ kind:=x39.kind,vars:=x39.vars,coefs:=x49.2,bound:=x39.bound,rows:=x39.rows } : Rule)).set (Int.toNat i_7) ({ x61 with bound:=x49.1 })).set (Int.toNat i_7) ({ kind:=x64.kind,vars:=x64.vars,coefs:=x64.coefs,bound:=x64.bound,rows:=x74.2 } : Rule)),x74.1,i64 (i_7 + 1),hL8,sf0,rfl,rfl,Z⟩
 have hB8:=(ite_f hc9).symm.trans hB8
 refine W_exit ?_
 obtain rfl:=so hB8
 obtain rfl:=so hL8
 exact rj hR8 ⟨a_5,k_6,i_7,rfl,sf1,Z⟩
 intro f w_ hR
 obtain ⟨a_5,k_6,i_7,rfl,sf1,Z⟩:=rk hR8 hR
 refine sq (mF sf1 rfl (aI rfl (nn (W_ret (retG1 (v1:=I k_6) Tryz.results40 rfl ?_)))))
 obtain rfl:=so hF
 exact ⟨rfl,Z⟩
theorem l_markModel_c {fu : Nat} {a : Model} {k : Int} {v0_0 : Value} {v0_1 : Value} {H : FH} {w : World} (Z : Star H w [oF 3 RP.int v0_0 a.sizes,oS 49 (oRule 3 22) v0_1 a.rules]) {r : Int × Model} (hF : l_markModel fu a k = some r) :
 C Tryz.prog 10 #[.agg #[v0_0,v0_1],I k] w fun v w'=>v = I r.1∧Star H w' [oF 3 RP.int v0_0 r.2.sizes,oS 49 (oRule 3 22) v0_1 r.2.rules]:=by
 unfold l_markModel at hF
 refine C_enter Tryz.func10 rfl Tryz.ntmps10 rfl (sq (L_box (v:=.agg #[v0_0,v0_1]) (cs:=#[v0_0,v0_1]) rfl rfl rfl Z (fun g3 w4 Z=>aI rfl (nq ?_))))
 obtain ⟨x10,hx10,hF⟩:=bind_some hF
 refine W_region (fA 0 fa_25_0 rfl rfl (ldB 0 Z Tryz.isAgg22 rfl rfl rfl (mI rfl ?_)))
 have Z:=Z.get 1 rfl
 obtain ⟨H12b,l13,s14,z15,k16⟩:=Z.lend [_]
 refine L_call rfl Tryz.call39 (ops2 rfl rfl) (l_markIntS_c (a:=a.sizes) (k:=k) s14 hx10) ?_
 rintro _ w17 ⟨rfl,Z⟩
 have Z:=k16 Z (co closed_int c0)
 refine aI rfl (nq ?_)
 obtain ⟨x23,hx23,hF⟩:=bind_some hF
 refine W_region (fA 1 fa_25_1 rfl rfl (ldB 1 Z Tryz.isAgg23 rfl rfl rfl (mI rfl ?_)))
 have Z:=Z.get 2 rfl
 obtain ⟨H25b,l26,s27,z28,k29⟩:=Z.lend [_]
 refine L_call rfl Tryz.call40 (ops2 rfl rfl) (l_markRuleS_c (a:=a.rules) (k:=x10.1) s27 hx23) ?_
 rintro _ w30 ⟨rfl,Z⟩
 have Z:=k29 Z (co closed_oRule c0)
 refine aI rfl (ns (mI rfl (aI rfl (nn (W_ret (retG1 (v1:=I x23.1) Tryz.results10 rfl ?_))))))
 obtain rfl:=so hF
 have Z:=Z.get 1 rfl
 exact ⟨rfl,(Star.keepN 2 Z)⟩
theorem l_heldIntS_c {a : List Int} {k : Int} {v0 : Value} {H : FH} {w : World} (Z : Star H w []) (h0 : (rS 3 RP.int).rel H [v0] a) {r : Int} (hF : l_heldIntS a k = some r) :
 C Tryz.prog 41 #[v0,I k] w fun v w'=>v = I r∧Star H w' []:=by
 unfold l_heldIntS at hF
 refine C_enter Tryz.func41 rfl Tryz.ntmps41 rfl (sq (aI rfl (nq (sq (aI rfl (nn ?_))))))
 have hlen3 : List.length a≤9223372036854775807:=len_le (slice_len h0)
 obtain ⟨j3,hL3,hF⟩:=bind_some hF
 obtain ⟨R3,hR3⟩:=exR fun f w_=>∃ k_2 : Int,j3 = .nx k_2∧f 1 = I k_2∧Star H w_ ([])
 refine W_join R3 ?_ ?_
 refine W_block ?_
 obtain ⟨I3,hI3⟩:=exI fun n f w_=>∃ i_1 : Nat,∃ suf3 : List Int,∃ k_2 : Int,n = suf3.length∧List.drop i_1 a = suf3∧i_1 + suf3.length = a.length∧rangeL l_heldIntS_b1 suf3 i_1 k_2 = some j3∧f 0 = v0∧f 1 = I k_2∧f 5 = I i_1∧Star H w_ ([])
 refine W_loop I3 (n:=a.length) ?_ ?_
 exact ij hI3 ⟨0,a,k,rfl,rfl,Nat.zero_add _,hL3,rfl,rfl,rfl,Z⟩
 intro n3 f w_ hI
 obtain ⟨i_1,suf3,k_2,rfl,hd3,hl3,hL3,sf0,sf1,sf5,Z⟩:=ik hI3 hI
 refine W_seq (sq (mF sf5 rfl (mF sf0 rfl (L_len rfl Tryz.underlying22 rfl (slice_len h0) (L_lss rfl rfl rfl (nn (W_cond (b:=decide ((i_1 : Int) < (a.length : Int))) rfl (fun hc4=>?_) (fun hc4=>?_))))))))
 have hlt3:=of_decide_eq_true hc4
 rcases suf3 with _ | ⟨x_3,rest3⟩
 exact absurd hlt3 (by simp at hl3; omega)
 obtain ⟨o3,hB3,hL3⟩:=range_cons hL3
 rw [l_heldIntS_b1] at hB3
 have hix3:=drop_idx hd3
 refine W_skip (W_seq (W_block (W_seq (sq (mF sf0 rfl (mF sf5 rfl (L_ix (r:=RP.int) rfl Tryz.underlying22 Tryz.sizeOf3 rfl h0 rfl hix3 (fun g9 o10 cs_g9 hrk_hat11 hat11=>?_))))))))
 obtain rfl : _ = [_]:=hrk_hat11
 refine L_ld rfl Tryz.isAgg3 rfl (At.cell (AtH.at hat11 Z.sub) (j:=0) rfl) (mF sf1 rfl (L_neq rfl rfl rfl (nn (W_cond (b:=(x_3 != k_2)) rfl (fun hc13=>?_) (fun hc13=>?_)))))
 have hB3:=(ite_t hc13).symm.trans hB3
 refine sq (aI rfl (nn (W_ret (retG1 (v1:=I (-1)) Tryz.results41 rfl ?_))))
 obtain rfl:=so hB3
 obtain rfl:=so hL3
 obtain rfl:=so hF
 exact ⟨rfl,Z⟩
 have hB3:=(ite_f hc13).symm.trans hB3
 refine W_skip (W_region (mF sf1 rfl (L_add rfl rfl rfl (aI rfl (nn (W_region (mF sf5 rfl (L_add rfl rfl rfl (aI rfl (nn ?_))))))))))
 obtain rfl:=so hB3
 show ∃ m,m < _∧I3 m _ _
 refine ⟨rest3.length,by simp,?_⟩
 exact ij hI3 ⟨i_1 + 1,rest3,i64 (k_2 + 1),rfl,drop_next hd3,by simp at hl3; omega,hL3,sf0,rfl,(Eq.trans rfl (congrArg (Value.int .i64) (i64_succ (n:=a.length) (by simp at hl3; omega) hlen3))),Z⟩
 rcases suf3 with _ | ⟨_,_⟩
 obtain rfl:=range_nil hL3
 refine W_exit (rj hR3 ⟨k_2,rfl,sf1,Z⟩)
 exact absurd (of_decide_eq_false hc4) (by simp at hl3; omega)
 intro f w_ hR
 obtain ⟨k_2,rfl,sf1,Z⟩:=rk hR3 hR
 refine sq (mF sf1 rfl (aI rfl (nn (W_ret (retG1 (v1:=I k_2) Tryz.results41 rfl ?_)))))
 obtain rfl:=so hF
 exact ⟨rfl,Z⟩
theorem l_heldIntSS_c {a : List (List Int)} {k : Int} {v0 : Value} {H : FH} {w : World} (Z : Star H w []) (h0 : (rS 22 (rS 3 RP.int)).rel H [v0] a) {r : Int} (hF : l_heldIntSS a k = some r) :
 C Tryz.prog 84 #[v0,I k] w fun v w'=>v = I r∧Star H w' []:=by
 unfold l_heldIntSS at hF
 refine C_enter Tryz.func84 rfl Tryz.ntmps84 rfl (sq (aI rfl (nq (sq (aI rfl (nn ?_))))))
 have hlen3 : List.length a≤9223372036854775807:=len_le (slice_len h0)
 obtain ⟨j3,hL3,hF⟩:=bind_some hF
 obtain ⟨R3,hR3⟩:=exR fun f w_=>∃ k_2 : Int,j3 = .nx k_2∧f 1 = I k_2∧Star H w_ ([])
 refine W_join R3 ?_ ?_
 refine W_block ?_
 obtain ⟨I3,hI3⟩:=exI fun n f w_=>∃ i_1 : Nat,∃ suf3 : List (List Int),∃ k_2 : Int,n = suf3.length∧List.drop i_1 a = suf3∧i_1 + suf3.length = a.length∧rangeL l_heldIntSS_b1 suf3 i_1 k_2 = some j3∧f 0 = v0∧f 1 = I k_2∧f 5 = I i_1∧Star H w_ ([])
 refine W_loop I3 (n:=a.length) ?_ ?_
 exact ij hI3 ⟨0,a,k,rfl,rfl,Nat.zero_add _,hL3,rfl,rfl,rfl,Z⟩
 intro n3 f w_ hI
 obtain ⟨i_1,suf3,k_2,rfl,hd3,hl3,hL3,sf0,sf1,sf5,Z⟩:=ik hI3 hI
 refine W_seq (sq (mF sf5 rfl (mF sf0 rfl (L_len rfl Tryz.underlying47 rfl (slice_len h0) (L_lss rfl rfl rfl (nn (W_cond (b:=decide ((i_1 : Int) < (a.length : Int))) rfl (fun hc4=>?_) (fun hc4=>?_))))))))
 have hlt3:=of_decide_eq_true hc4
 rcases suf3 with _ | ⟨x_3,rest3⟩
 exact absurd hlt3 (by simp at hl3; omega)
 obtain ⟨o3,hB3,hL3⟩:=range_cons hL3
 rw [l_heldIntSS_b1] at hB3
 have hix3:=drop_idx hd3
 refine W_skip (W_seq (W_block (W_seq ?_)))
 obtain ⟨x14,hx14,hB3⟩:=bind_some hB3
 refine W_region (mF sf0 rfl (mF sf5 rfl (L_ix (r:=(rS 3 RP.int)) rfl Tryz.underlying47 Tryz.sizeOf22 rfl h0 rfl hix3 (fun g16 o17 cs_g16 hrk_hat18 hat18=>?_))))
 obtain ⟨u19,rfl,hu19⟩:=slice1 hrk_hat18
 refine L_ld rfl Tryz.isAgg22 rfl (At.cell (AtH.at hat18 Z.sub) (j:=0) rfl) (mF sf1 rfl ?_)
 obtain ⟨H20b,l21,s22,z23,k24⟩:=Z.borrow
 refine L_call rfl Tryz.call41 (ops2 rfl rfl) (l_heldIntS_c (a:=x_3) (k:=k_2) s22 (RP.mono _ hu19 l21) hx14) ?_
 rintro _ w25 ⟨rfl,Z⟩
 have Z:=k24 Z c0
 refine aI rfl (ns (mI rfl (L_lss rfl rfl rfl (nn (W_cond (b:=decide (x14 < 0)) rfl (fun hc26=>?_) (fun hc26=>?_))))))
 have hB3:=(ite_t hc26).symm.trans hB3
 refine sq (aI rfl (nn (W_ret (retG1 (v1:=I (-1)) Tryz.results84 rfl ?_))))
 obtain rfl:=so hB3
 obtain rfl:=so hL3
 obtain rfl:=so hF
 exact ⟨rfl,Z⟩
 have hB3:=(ite_f hc26).symm.trans hB3
 refine W_skip (W_region (mF sf5 rfl (L_add rfl rfl rfl (aI rfl (nn ?_)))))
 obtain rfl:=so hB3
 show ∃ m,m < _∧I3 m _ _
 refine ⟨rest3.length,by simp,?_⟩
 exact ij hI3 ⟨i_1 + 1,rest3,x14,rfl,drop_next hd3,by simp at hl3; omega,hL3,sf0,rfl,(Eq.trans rfl (congrArg (Value.int .i64) (i64_succ (n:=a.length) (by simp at hl3; omega) hlen3))),Z⟩
 rcases suf3 with _ | ⟨_,_⟩
 obtain rfl:=range_nil hL3
 refine W_exit (rj hR3 ⟨k_2,rfl,sf1,Z⟩)
 exact absurd (of_decide_eq_false hc4) (by simp at hl3; omega)
 intro f w_ hR
 obtain ⟨k_2,rfl,sf1,Z⟩:=rk hR3 hR
 refine sq (mF sf1 rfl (aI rfl (nn (W_ret (retG1 (v1:=I k_2) Tryz.results84 rfl ?_)))))
 obtain rfl:=so hF
 exact ⟨rfl,Z⟩
theorem l_heldRuleS_c {a : List Rule} {k : Int} {v0 : Value} {H : FH} {w : World} (Z : Star H w []) (h0 : (rS 49 (rRule 3 22)).rel H [v0] a) {r : Int} (hF : l_heldRuleS a k = some r) :
 C Tryz.prog 42 #[v0,I k] w fun v w'=>v = I r∧Star H w' []:=by
 unfold l_heldRuleS at hF
 refine C_enter Tryz.func42 rfl Tryz.ntmps42 rfl (sq (aI rfl (nq (sq (aI rfl (nn ?_))))))
 have hlen3 : List.length a≤9223372036854775807:=len_le (slice_len h0)
 obtain ⟨j3,hL3,hF⟩:=bind_some hF
 obtain ⟨R3,hR3⟩:=exR fun f w_=>∃ k_2 : Int,j3 = .nx k_2∧f 1 = I k_2∧Star H w_ ([])
 refine W_join R3 ?_ ?_
 refine W_block ?_
 obtain ⟨I3,hI3⟩:=exI fun n f w_=>∃ i_1 : Nat,∃ suf3 : List Rule,∃ k_2 : Int,n = suf3.length∧List.drop i_1 a = suf3∧i_1 + suf3.length = a.length∧rangeL l_heldRuleS_b1 suf3 i_1 k_2 = some j3∧f 0 = v0∧f 1 = I k_2∧f 5 = I i_1∧Star H w_ ([])
 refine W_loop I3 (n:=a.length) ?_ ?_
 exact ij hI3 ⟨0,a,k,rfl,rfl,Nat.zero_add _,hL3,rfl,rfl,rfl,Z⟩
 intro n3 f w_ hI
 obtain ⟨i_1,suf3,k_2,rfl,hd3,hl3,hL3,sf0,sf1,sf5,Z⟩:=ik hI3 hI
 refine W_seq (sq (mF sf5 rfl (mF sf0 rfl (L_len rfl Tryz.underlying23 rfl (slice_len h0) (L_lss rfl rfl rfl (nn (W_cond (b:=decide ((i_1 : Int) < (a.length : Int))) rfl (fun hc4=>?_) (fun hc4=>?_))))))))
 have hlt3:=of_decide_eq_true hc4
 rcases suf3 with _ | ⟨x_3,rest3⟩
 exact absurd hlt3 (by simp at hl3; omega)
 obtain ⟨o3,hB3,hL3⟩:=range_cons hL3
 rw [l_heldRuleS_b1] at hB3
 have hix3:=drop_idx hd3
 refine W_skip (W_seq (W_block (W_seq (sq (mF sf0 rfl (mF sf5 rfl (L_ix (r:=(rRule 3 22)) rfl Tryz.underlying23 Tryz.sizeOf49 rfl h0 rfl hix3 (fun g9 o10 cs_g9 hrk_hat11 hat11=>?_))))))))
 obtain ⟨u12_0,u12_1,u12_2,rfl,hu12_0,hu12_1,hu12_2⟩:=rRule_iff.1 hrk_hat11
 refine fA o10 fa_49_0 rfl rfl (L_ld rfl Tryz.isAgg3 rfl (At.cell (AtH.at hat11 Z.sub) (j:=0) rfl) (mF sf1 rfl (L_neq rfl rfl rfl (nn (W_cond (b:=(x_3.kind != k_2)) rfl (fun hc13=>?_) (fun hc13=>?_))))))
 have hB3:=(ite_t hc13).symm.trans hB3
 refine sq (aI rfl (nn (W_ret (retG1 (v1:=I (-1)) Tryz.results42 rfl ?_))))
 obtain rfl:=so hB3
 obtain rfl:=so hL3
 obtain rfl:=so hF
 exact ⟨rfl,Z⟩
 have hB3:=(ite_f hc13).symm.trans hB3
 refine W_skip (sq (mF sf1 rfl (L_add rfl rfl rfl (aI rfl (nq ?_)))))
 obtain ⟨x23,hx23,hB3⟩:=bind_some hB3
 refine W_region (mF sf0 rfl (mF sf5 rfl (L_ix (r:=(rRule 3 22)) rfl Tryz.underlying23 Tryz.sizeOf49 rfl h0 rfl hix3 (fun g25 o26 cs_g25 hrk_hat27 hat27=>?_))))
 obtain ⟨u28_0,u28_1,u28_2,rfl,hu28_0,hu28_1,hu28_2⟩:=rRule_iff.1 hrk_hat27
 refine fA (o26 + 1) fa_49_1 rfl rfl (L_ld rfl Tryz.isAgg22 rfl (At.cell (AtH.at hat27 Z.sub) (j:=1) rfl) (mI rfl ?_))
 obtain ⟨H29b,l30,s31,z32,k33⟩:=Z.borrow
 refine L_call rfl Tryz.call41 (ops2 rfl rfl) (l_heldIntS_c (a:=x_3.vars) (k:=i64 (k_2 + 1)) s31 (RP.mono _ hu28_0 l30) hx23) ?_
 rintro _ w34 ⟨rfl,Z⟩
 have Z:=k33 Z c0
 refine aI rfl (nq (sq (mI rfl (L_lss rfl rfl rfl (nn (W_cond (b:=decide (x23 < 0)) rfl (fun hc35=>?_) (fun hc35=>?_)))))))
 have hB3:=(ite_t hc35).symm.trans hB3
 refine sq (aI rfl (nn (W_ret (retG1 (v1:=I (-1)) Tryz.results42 rfl ?_))))
 obtain rfl:=so hB3
 obtain rfl:=so hL3
 obtain rfl:=so hF
 exact ⟨rfl,Z⟩
 have hB3:=(ite_f hc35).symm.trans hB3
 refine W_skip (W_seq ?_)
 obtain ⟨x45,hx45,hB3⟩:=bind_some hB3
 refine W_region (mF sf0 rfl (mF sf5 rfl (L_ix (r:=(rRule 3 22)) rfl Tryz.underlying23 Tryz.sizeOf49 rfl h0 rfl hix3 (fun g47 o48 cs_g47 hrk_hat49 hat49=>?_))))
 obtain ⟨u50_0,u50_1,u50_2,rfl,hu50_0,hu50_1,hu50_2⟩:=rRule_iff.1 hrk_hat49
 refine fA (o48 + 2) fa_49_2 rfl rfl (L_ld rfl Tryz.isAgg22 rfl (At.cell (AtH.at hat49 Z.sub) (j:=2) rfl) (mI rfl ?_))
 obtain ⟨H51b,l52,s53,z54,k55⟩:=Z.borrow
 refine L_call rfl Tryz.call41 (ops2 rfl rfl) (l_heldIntS_c (a:=x_3.coefs) (k:=x23) s53 (RP.mono _ hu50_1 l52) hx45) ?_
 rintro _ w56 ⟨rfl,Z⟩
 have Z:=k55 Z c0
 refine aI rfl (nq (sq (mI rfl (L_lss rfl rfl rfl (nn (W_cond (b:=decide (x45 < 0)) rfl (fun hc57=>?_) (fun hc57=>?_)))))))
 have hB3:=(ite_t hc57).symm.trans hB3
 refine sq (aI rfl (nn (W_ret (retG1 (v1:=I (-1)) Tryz.results42 rfl ?_))))
 obtain rfl:=so hB3
 obtain rfl:=so hL3
 obtain rfl:=so hF
 exact ⟨rfl,Z⟩
 have hB3:=(ite_f hc57).symm.trans hB3
 refine W_skip (W_seq (sq (mF sf0 rfl (mF sf5 rfl (L_ix (r:=(rRule 3 22)) rfl Tryz.underlying23 Tryz.sizeOf49 rfl h0 rfl hix3 (fun g62 o63 cs_g62 hrk_hat64 hat64=>?_))))))
 obtain ⟨u65_0,u65_1,u65_2,rfl,hu65_0,hu65_1,hu65_2⟩:=rRule_iff.1 hrk_hat64
 refine fA (o63 + 3) fa_49_3 rfl rfl (L_ld rfl Tryz.isAgg3 rfl (At.cell (AtH.at hat64 Z.sub) (j:=3) rfl) (mI rfl (L_neq rfl rfl rfl (nn (W_cond (b:=(x_3.bound != x45)) rfl (fun hc66=>?_) (fun hc66=>?_))))))
 have hB3:=(ite_t hc66).symm.trans hB3
 refine sq (aI rfl (nn (W_ret (retG1 (v1:=I (-1)) Tryz.results42 rfl ?_))))
 obtain rfl:=so hB3
 obtain rfl:=so hL3
 obtain rfl:=so hF
 exact ⟨rfl,Z⟩
 have hB3:=(ite_f hc66).symm.trans hB3
 refine W_skip (sq (mI rfl (L_add rfl rfl rfl (aI rfl (nq ?_)))))
 obtain ⟨x76,hx76,hB3⟩:=bind_some hB3
 refine W_region (mF sf0 rfl (mF sf5 rfl (L_ix (r:=(rRule 3 22)) rfl Tryz.underlying23 Tryz.sizeOf49 rfl h0 rfl hix3 (fun g78 o79 cs_g78 hrk_hat80 hat80=>?_))))
 obtain ⟨u81_0,u81_1,u81_2,rfl,hu81_0,hu81_1,hu81_2⟩:=rRule_iff.1 hrk_hat80
 refine fA (o79 + 4) fa_49_4 rfl rfl (L_ld rfl Tryz.isAgg47 rfl (At.cell (AtH.at hat80 Z.sub) (j:=4) rfl) (mI rfl ?_))
 obtain ⟨H82b,l83,s84,z85,k86⟩:=Z.borrow
 refine L_call rfl Tryz.call84 (ops2 rfl rfl) (l_heldIntSS_c (a:=x_3.rows) (k:=i64 (x45 + 1)) s84 (RP.mono _ hu81_2 l83) hx76) ?_
 rintro _ w87 ⟨rfl,Z⟩
 have Z:=k86 Z c0
 refine aI rfl (ns (mI rfl (L_lss rfl rfl rfl (nn (W_cond (b:=decide (x76 < 0)) rfl (fun hc88=>?_) (fun hc88=>?_))))))
 have hB3:=(ite_t hc88).symm.trans hB3
 refine sq (aI rfl (nn (W_ret (retG1 (v1:=I (-1)) Tryz.results42 rfl ?_))))
 obtain rfl:=so hB3
 obtain rfl:=so hL3
 obtain rfl:=so hF
 exact ⟨rfl,Z⟩
 have hB3:=(ite_f hc88).symm.trans hB3
 refine W_skip (W_region (mF sf5 rfl (L_add rfl rfl rfl (aI rfl (nn ?_)))))
 obtain rfl:=so hB3
 show ∃ m,m < _∧I3 m _ _
 refine ⟨rest3.length,by simp,?_⟩
 exact ij hI3 ⟨i_1 + 1,rest3,x76,rfl,drop_next hd3,by simp at hl3; omega,hL3,sf0,rfl,(Eq.trans rfl (congrArg (Value.int .i64) (i64_succ (n:=a.length) (by simp at hl3; omega) hlen3))),Z⟩
 rcases suf3 with _ | ⟨_,_⟩
 obtain rfl:=range_nil hL3
 refine W_exit (rj hR3 ⟨k_2,rfl,sf1,Z⟩)
 exact absurd (of_decide_eq_false hc4) (by simp at hl3; omega)
 intro f w_ hR
 obtain ⟨k_2,rfl,sf1,Z⟩:=rk hR3 hR
 refine sq (mF sf1 rfl (aI rfl (nn (W_ret (retG1 (v1:=I k_2) Tryz.results42 rfl ?_)))))
 obtain rfl:=so hF
 exact ⟨rfl,Z⟩
theorem l_heldModel_c {a : Model} {k : Int} {v0_0 : Value} {v0_1 : Value} {H : FH} {w : World} (Z : Star H w []) (h0_0 : (rS 3 RP.int).rel H [v0_0] a.sizes) (h0_1 : (rS 49 (rRule 3 22)).rel H [v0_1] a.rules) {r : Int} (hF : l_heldModel a k = some r) :
 C Tryz.prog 11 #[.agg #[v0_0,v0_1],I k] w fun v w'=>v = I r∧Star H w' []:=by
 unfold l_heldModel at hF
 refine C_enter Tryz.func11 rfl Tryz.ntmps11 rfl (sq (L_box (v:=.agg #[v0_0,v0_1]) (cs:=#[v0_0,v0_1]) rfl rfl rfl Z (fun g3 w4 Z=>aI rfl (nq ?_))))
 obtain ⟨x10,hx10,hF⟩:=bind_some hF
 refine W_region (fA 0 fa_25_0 rfl rfl (ldB 0 Z Tryz.isAgg22 rfl rfl rfl (mI rfl ?_)))
 obtain ⟨H12b,l13,s14,z15,k16⟩:=Z.borrow
 refine L_call rfl Tryz.call41 (ops2 rfl rfl) (l_heldIntS_c (a:=a.sizes) (k:=k) s14 (RP.mono _ h0_0 l13) hx10) ?_
 rintro _ w17 ⟨rfl,Z⟩
 have Z:=k16 Z c0
 refine aI rfl (nq (sq (mI rfl (L_lss rfl rfl rfl (nn (W_cond (b:=decide (x10 < 0)) rfl (fun hc18=>?_) (fun hc18=>?_)))))))
 have hF:=(ite_t hc18).symm.trans hF
 refine sq (aI rfl (nn (W_ret (retG1 (v1:=I (-1)) Tryz.results11 rfl ?_))))
 obtain rfl:=so hF
 exact ⟨rfl,(Star.keepN 0 Z)⟩
 have hF:=(ite_f hc18).symm.trans hF
 refine W_skip (W_seq ?_)
 obtain ⟨x24,hx24,hF⟩:=bind_some hF
 refine W_region (fA 1 fa_25_1 rfl rfl (ldB 0 Z Tryz.isAgg23 rfl rfl rfl (mI rfl ?_)))
 obtain ⟨H26b,l27,s28,z29,k30⟩:=Z.borrow
 refine L_call rfl Tryz.call42 (ops2 rfl rfl) (l_heldRuleS_c (a:=a.rules) (k:=x10) s28 (RP.mono _ h0_1 l27) hx24) ?_
 rintro _ w31 ⟨rfl,Z⟩
 have Z:=k30 Z c0
 refine aI rfl (nq (sq (mI rfl (L_lss rfl rfl rfl (nn (W_cond (b:=decide (x24 < 0)) rfl (fun hc32=>?_) (fun hc32=>?_)))))))
 have hF:=(ite_t hc32).symm.trans hF
 refine sq (aI rfl (nn (W_ret (retG1 (v1:=I (-1)) Tryz.results11 rfl ?_))))
 obtain rfl:=so hF
 exact ⟨rfl,(Star.keepN 0 Z)⟩
 have hF:=(ite_f hc32).symm.trans hF
 refine W_skip (sq (mI rfl (aI rfl (nn (W_ret (retG1 (v1:=I x24) Tryz.results11 rfl ?_))))))
 obtain rfl:=so hF
 exact ⟨rfl,(Star.keepN 0 Z)⟩
theorem l_FnExactParseModel_c {fu : Nat} {aText : ByteArray} {H : FH} {w : World} (Z : Star H w []) {r : Bool} (hF : l_FnExactParseModel fu aText = some r) :
 C Tryz.prog 3 #[.string aText] w fun v w'=>v = Bo r∧Star H w' []:=by
 unfold l_FnExactParseModel at hF
 refine C_enter Tryz.func3 rfl Tryz.ntmps3 rfl (sq (aB rfl (nq (sq (mV (.string aText) rfl (L_slen (s:=aText) rfl Tryz.underlying9 rfl (L_gtr rfl rfl rfl (nn (W_cond (b:=decide ((aText.size : Int) > 1048576)) rfl (fun hc1=>?_) (fun hc1=>?_))))))))))
 have hF:=(ite_t hc1).symm.trans hF
 refine sq (aB rfl (nn (W_ret (retG1 (v1:=Bo true) Tryz.results3 rfl ?_))))
 obtain rfl:=so hF
 exact ⟨rfl,Z⟩
 have hF:=(ite_f hc1).symm.trans hF
 refine W_skip (W_seq ?_)
 obtain ⟨x7,hx7,hF⟩:=bind_some hF
 refine W_region (mV (.string aText) rfl ?_)
 obtain ⟨H14b,l15,s16,z17,k18⟩:=Z.borrow
 refine L_call rfl Tryz.call7 (ops1 rfl) (s_ParseModel_c (text:=aText) s16 hx7) ?_
 rintro _ w19 ⟨r19_0,r19_1,rfl,Z⟩
 have Z:=k18 Z (co closed_int (co closed_oRule c0))
 refine mV (.tuple #[.agg #[r19_0,r19_1],Bo x7.2]) rfl (L_ex (v:=.agg #[r19_0,r19_1]) rfl rfl rfl (L_ex (v:=Bo x7.2) rfl rfl rfl (L_al (cs:=#[S0,S0]) rfl Tryz.zeroValue25 rfl Z (fun g22 w23 Z=>L_staB (vs:=#[r19_0,r19_1]) (cs2:=#[r19_0,r19_1]) 0 rfl Tryz.sizeOf25 rfl rfl rfl (ones_cons (one_len (Star.len 1 Z rfl)) (ones_cons (one_len (Star.len 2 Z rfl)) ones_nil)) Z rfl (by show 0 + 2≤2; decide) rfl (fun w24 Z=>aB rfl (nq ?_))))))
 obtain ⟨x30,hx30,hF⟩:=bind_some hF
 refine W_region (mV (.string aText) rfl ?_)
 obtain ⟨H37b,l38,s39,z40,k41⟩:=Z.borrow
 refine L_call rfl Tryz.call8 (ops1 rfl) (i_ParseModel_c (text:=aText) s39 hx30) ?_
 rintro _ w42 ⟨r42_0,r42_1,rfl,Z⟩
 have Z:=k41 Z (co closed_int (co closed_oRule c0))
 refine mV (.tuple #[.agg #[r42_0,r42_1],Bo x30.2]) rfl (L_ex (v:=.agg #[r42_0,r42_1]) rfl rfl rfl (L_ex (v:=Bo x30.2) rfl rfl rfl (L_al (cs:=#[S0,S0]) rfl Tryz.zeroValue25 rfl Z (fun g45 w46 Z=>L_staB (vs:=#[r42_0,r42_1]) (cs2:=#[r42_0,r42_1]) 0 rfl Tryz.sizeOf25 rfl rfl rfl (ones_cons (one_len (Star.len 1 Z rfl)) (ones_cons (one_len (Star.len 2 Z rfl)) ones_nil)) Z rfl (by show 0 + 2≤2; decide) rfl (fun w47 Z=>aB rfl (nq (W_seq ?_)))))))
 obtain ⟨x57,hx57,hF⟩:=bind_some hF
 obtain ⟨R59,hR59⟩:=exR fun f w_=>f 0 = .string aText∧f 3 = Pt g22∧f 4 = Bo x7.2∧f 5 = Pt g45∧f 32 = Bo ((!x57) || (x30.2 != x7.2))∧Star H w_ ([oF 3 RP.int r42_0 x30.1.sizes,oS 49 (oRule 3 22) r42_1 x30.1.rules,box g45 25 #[r42_0,r42_1],oF 3 RP.int r19_0 x7.1.sizes,oS 49 (oRule 3 22) r19_1 x7.1.rules,box g22 25 #[r19_0,r19_1]])
 refine W_join R59 ?_ ?_
 refine W_region (L_lda (cs:=[r42_0,r42_1]) rfl Tryz.isAgg25 Tryz.sizeOf25 rfl (At.sub0 (Blk.at (Star.blkAt 0 Z rfl)) 0 2) rfl (L_lda (cs:=[r19_0,r19_1]) rfl Tryz.isAgg25 Tryz.sizeOf25 rfl (At.sub0 (Blk.at (Star.blkAt 3 Z rfl)) 0 2) rfl ?_))
 obtain ⟨H60b,l61,s62,z63,k64⟩:=Z.borrow
 have hb65 : (rS 3 RP.int).rel H60b [r42_0] x30.1.sizes:=fz_own 1 z63 rfl
 have hb66 : (rS 49 (rRule 3 22)).rel H60b [r42_1] x30.1.rules:=fz_own 2 z63 rfl
 have hb67 : (rS 3 RP.int).rel H60b [r19_0] x7.1.sizes:=fz_own 4 z63 rfl
 have hb68 : (rS 49 (rRule 3 22)).rel H60b [r19_1] x7.1.rules:=fz_own 5 z63 rfl
 refine L_call rfl Tryz.call9 (ops2 rfl rfl) (l_eqModel_c (a:=x30.1) (b:=x7.1) s62 hb65 hb66 hb67 hb68 hx57) ?_
 rintro _ w69 ⟨rfl,Z⟩
 have Z:=k64 Z c0
 refine L_not_ rfl rfl (mB rfl (L_split (d:=28) (b:=(!x57)) rfl (fun hc70=>?_) (fun hc70=>?_)))
 refine ps rfl (ps rfl (ps rfl (L_pick (v:=Bo ((!x57) || (x30.2 != x7.2))) rfl rfl (or_t hc70) (nn ?_))))
 have Z:=Z.gets [3,5,5,3,5,5] rfl
 exact rj hR59 ⟨rfl,rfl,rfl,rfl,rfl,Z⟩
 refine mB rfl (mB rfl (L_bneq (b:=x30.2) (c:=x7.2) rfl Tryz.underlying4 rfl rfl (L_pick (v:=Bo ((!x57) || (x30.2 != x7.2))) rfl rfl (or_f hc70 rfl) (nn ?_))))
 have Z:=Z.gets [3,5,5,3,5,5] rfl
 exact rj hR59 ⟨rfl,rfl,rfl,rfl,rfl,Z⟩
 intro f w_ hR
 obtain ⟨sf0,sf3,sf4,sf5,sf32,Z⟩:=rk hR59 hR
 refine W_cond (b:=((!x57) || (x30.2 != x7.2))) sf32 (fun hc71=>?_) (fun hc71=>?_)
 have hF:=(ite_t hc71).symm.trans hF
 refine sq (aB rfl (nn (W_ret (retG1 (v1:=Bo false) Tryz.results3 rfl ?_))))
 obtain rfl:=so hF
 exact ⟨rfl,(Star.keepN 0 Z)⟩
 have hF:=(ite_f hc71).symm.trans hF
 refine W_skip (sq (aI rfl (nq ?_)))
 obtain ⟨x77,hx77,hF⟩:=bind_some hF
 refine W_region (L_lda (cs:=[r42_0,r42_1]) rfl Tryz.isAgg25 Tryz.sizeOf25 sf5 (At.sub0 (Blk.at (Star.blkAt 2 Z rfl)) 0 2) rfl (mI rfl ?_))
 obtain ⟨H79b,l80,s81,z82,k83⟩:=Z.lend [_,_]
 refine L_call rfl Tryz.call10 (ops2 rfl rfl) (l_markModel_c (a:=x30.1) (k:=1) s81 hx77) ?_
 rintro _ w84 ⟨rfl,Z⟩
 have Z:=k83 Z (co closed_int (co closed_oRule c0))
 refine aI rfl (ns (aI rfl (nq ?_)))
 obtain ⟨x92,hx92,hF⟩:=bind_some hF
 refine W_region (L_lda (cs:=[r42_0,r42_1]) rfl Tryz.isAgg25 Tryz.sizeOf25 sf5 (At.sub0 (Blk.at (Star.blkAt 2 Z rfl)) 0 2) rfl (mI rfl ?_))
 obtain ⟨H94b,l95,s96,z97,k98⟩:=Z.borrow
 have hb99 : (rS 3 RP.int).rel H94b [r42_0] x77.2.sizes:=fz_own 0 z97 rfl
 have hb100 : (rS 49 (rRule 3 22)).rel H94b [r42_1] x77.2.rules:=fz_own 1 z97 rfl
 refine L_call rfl Tryz.call11 (ops2 rfl rfl) (l_heldModel_c (a:=x77.2) (k:=1) s96 hb99 hb100 hx92) ?_
 rintro _ w101 ⟨rfl,Z⟩
 have Z:=k98 Z c0
 refine aI rfl (nq (sq (mI rfl (L_lss rfl rfl rfl (nn (W_cond (b:=decide (x92 < 0)) rfl (fun hc102=>?_) (fun hc102=>?_)))))))
 have hF:=(ite_t hc102).symm.trans hF
 refine sq (aB rfl (nn (W_ret (retG1 (v1:=Bo false) Tryz.results3 rfl ?_))))
 obtain rfl:=so hF
 exact ⟨rfl,(Star.keepN 0 Z)⟩
 have hF:=(ite_f hc102).symm.trans hF
 refine W_skip (W_seq (sq (mI rfl (mI rfl (L_neq rfl rfl rfl (nn (W_cond (b:=(x92 != x77.1)) rfl (fun hc103=>?_) (fun hc103=>?_))))))))
 have hF:=(ite_t hc103).symm.trans hF
 refine sq (aB rfl (nn (W_ret (retG1 (v1:=Bo false) Tryz.results3 rfl ?_))))
 obtain rfl:=so hF
 exact ⟨rfl,(Star.keepN 0 Z)⟩
 have hF:=(ite_f hc103).symm.trans hF
 refine W_skip (W_seq ?_)
 obtain ⟨x109,hx109,hF⟩:=bind_some hF
 refine W_region (mF sf0 rfl ?_)
 obtain ⟨H116b,l117,s118,z119,k120⟩:=Z.borrow
 refine L_call rfl Tryz.call8 (ops1 rfl) (i_ParseModel_c (text:=aText) s118 hx109) ?_
 rintro _ w121 ⟨r121_0,r121_1,rfl,Z⟩
 have Z:=k120 Z (co closed_int (co closed_oRule c0))
 refine mV (.tuple #[.agg #[r121_0,r121_1],Bo x109.2]) rfl (L_ex (v:=.agg #[r121_0,r121_1]) rfl rfl rfl (L_ex (v:=Bo x109.2) rfl rfl rfl (L_al (cs:=#[S0,S0]) rfl Tryz.zeroValue25 rfl Z (fun g124 w125 Z=>L_staB (vs:=#[r121_0,r121_1]) (cs2:=#[r121_0,r121_1]) 0 rfl Tryz.sizeOf25 rfl rfl rfl (ones_cons (one_len (Star.len 1 Z rfl)) (ones_cons (one_len (Star.len 2 Z rfl)) ones_nil)) Z rfl (by show 0 + 2≤2; decide) rfl (fun w126 Z=>aB rfl (nq (W_seq ?_)))))))
 obtain ⟨x136,hx136,hF⟩:=bind_some hF
 obtain ⟨R138,hR138⟩:=exR fun f w_=>f 5 = Pt g45∧f 7 = I x77.1∧f 57 = Bo ((!x136) || (x109.2 != x7.2))∧Star H w_ ([oF 3 RP.int r42_0 x77.2.sizes,oS 49 (oRule 3 22) r42_1 x77.2.rules,box g45 25 #[r42_0,r42_1]])
 refine W_join R138 ?_ ?_
 refine W_region (L_lda (cs:=[r121_0,r121_1]) rfl Tryz.isAgg25 Tryz.sizeOf25 rfl (At.sub0 (Blk.at (Star.blkAt 0 Z rfl)) 0 2) rfl (L_lda (cs:=[r19_0,r19_1]) rfl Tryz.isAgg25 Tryz.sizeOf25 sf3 (At.sub0 (Blk.at (Star.blkAt 8 Z rfl)) 0 2) rfl ?_))
 obtain ⟨H139b,l140,s141,z142,k143⟩:=Z.borrow
 have hb144 : (rS 3 RP.int).rel H139b [r121_0] x109.1.sizes:=fz_own 1 z142 rfl
 have hb145 : (rS 49 (rRule 3 22)).rel H139b [r121_1] x109.1.rules:=fz_own 2 z142 rfl
 have hb146 : (rS 3 RP.int).rel H139b [r19_0] x7.1.sizes:=fz_own 6 z142 rfl
 have hb147 : (rS 49 (rRule 3 22)).rel H139b [r19_1] x7.1.rules:=fz_own 7 z142 rfl
 refine L_call rfl Tryz.call9 (ops2 rfl rfl) (l_eqModel_c (a:=x109.1) (b:=x7.1) s141 hb144 hb145 hb146 hb147 hx136) ?_
 rintro _ w148 ⟨rfl,Z⟩
 have Z:=k143 Z c0
 refine L_not_ rfl rfl (mB rfl (L_split (d:=53) (b:=(!x136)) rfl (fun hc149=>?_) (fun hc149=>?_)))
 refine ps rfl (ps rfl (ps rfl (L_pick (v:=Bo ((!x136) || (x109.2 != x7.2))) rfl rfl (or_t hc149) (nn ?_))))
 have Z:=Z.gets [5,5,5] rfl
 exact rj hR138 ⟨sf5,rfl,rfl,(Star.keepN 3 Z)⟩
 refine mB rfl (mF sf4 rfl (L_bneq (b:=x109.2) (c:=x7.2) rfl Tryz.underlying4 rfl rfl (L_pick (v:=Bo ((!x136) || (x109.2 != x7.2))) rfl rfl (or_f hc149 rfl) (nn ?_))))
 have Z:=Z.gets [5,5,5] rfl
 exact rj hR138 ⟨sf5,rfl,rfl,(Star.keepN 3 Z)⟩
 intro f w_ hR
 obtain ⟨sf5,sf7,sf57,Z⟩:=rk hR138 hR
 refine W_cond (b:=((!x136) || (x109.2 != x7.2))) sf57 (fun hc150=>?_) (fun hc150=>?_)
 have hF:=(ite_t hc150).symm.trans hF
 refine sq (aB rfl (nn (W_ret (retG1 (v1:=Bo false) Tryz.results3 rfl ?_))))
 obtain rfl:=so hF
 exact ⟨rfl,(Star.keepN 0 Z)⟩
 have hF:=(ite_f hc150).symm.trans hF
 refine W_skip (sq (aI rfl (nq ?_)))
 obtain ⟨x158,hx158,hF⟩:=bind_some hF
 refine W_region (L_lda (cs:=[r42_0,r42_1]) rfl Tryz.isAgg25 Tryz.sizeOf25 sf5 (At.sub0 (Blk.at (Star.blkAt 2 Z rfl)) 0 2) rfl (mI rfl ?_))
 obtain ⟨H160b,l161,s162,z163,k164⟩:=Z.borrow
 have hb165 : (rS 3 RP.int).rel H160b [r42_0] x77.2.sizes:=fz_own 0 z163 rfl
 have hb166 : (rS 49 (rRule 3 22)).rel H160b [r42_1] x77.2.rules:=fz_own 1 z163 rfl
 refine L_call rfl Tryz.call11 (ops2 rfl rfl) (l_heldModel_c (a:=x77.2) (k:=1) s162 hb165 hb166 hx158) ?_
 rintro _ w167 ⟨rfl,Z⟩
 have Z:=k164 Z c0
 refine aI rfl (nq (sq (mI rfl (L_lss rfl rfl rfl (nn (W_cond (b:=decide (x158 < 0)) rfl (fun hc168=>?_) (fun hc168=>?_)))))))
 have hF:=(ite_t hc168).symm.trans hF
 refine sq (aB rfl (nn (W_ret (retG1 (v1:=Bo false) Tryz.results3 rfl ?_))))
 obtain rfl:=so hF
 exact ⟨rfl,(Star.keepN 0 Z)⟩
 have hF:=(ite_f hc168).symm.trans hF
 refine W_skip (W_seq (sq (mI rfl (mF sf7 rfl (L_neq rfl rfl rfl (nn (W_cond (b:=(x158 != x77.1)) rfl (fun hc169=>?_) (fun hc169=>?_))))))))
 have hF:=(ite_t hc169).symm.trans hF
 refine sq (aB rfl (nn (W_ret (retG1 (v1:=Bo false) Tryz.results3 rfl ?_))))
 obtain rfl:=so hF
 exact ⟨rfl,(Star.keepN 0 Z)⟩
 have hF:=(ite_f hc169).symm.trans hF
 refine W_skip (sq (aB rfl (nn (W_ret (retG1 (v1:=Bo true) Tryz.results3 rfl ?_)))))
 obtain rfl:=so hF
 exact ⟨rfl,(Star.keepN 0 Z)⟩
end Go.Proofs.YtohpkefnmkdaeaaGreatDoor

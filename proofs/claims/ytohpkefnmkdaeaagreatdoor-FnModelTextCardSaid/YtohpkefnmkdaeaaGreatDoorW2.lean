/- Part of a proof by program: W2. -/
import Derived.Test.YtohpkefnmkdaeaaGreatDoorD1
import Derived.Test.YtohpkefnmkdaeaaGreatDoorW1
namespace Go.Proofs.YtohpkefnmkdaeaaGreatDoor
open Go Go.E Go.L Go.RowKit
set_option linter.unusedVariables false
set_option linter.unusedSimpArgs false
set_option maxRecDepth 100000
theorem i_readRule_c {fu : Nat} {line : ByteArray} {H : FH} {w : World} (Z : Star H w []) {r : Rule} (hF : i_readRule fu line = some r) :
 C Tryz.prog 35 #[.string line] w fun v w'=>∃ (u1 : Value) (u2 : Value) (u3 : Value),v = .agg #[I r.kind,u1,u2,I r.bound,u3]∧Star H w' [oF 3 RP.int u1 r.vars,oF 3 RP.int u2 r.coefs,own (OR.ownS 22 (OR.ownS 3 (OR.frz RP.int))) [u3] r.rows]:=by
 unfold i_readRule at hF
 refine C_enter Tryz.func35 rfl Tryz.ntmps35 rfl (sq (L_al (cs:=#[I 0,S0,S0,I 0,S0]) rfl Tryz.zeroValue49 rfl Z (fun g3 w4 Z=>nq ?_)))
 obtain ⟨x10,hx10,hF⟩:=bind_some hF
 refine W_region (mV (.string line) rfl ?_)
 obtain ⟨H13b,l14,s15,z16,k17⟩:=Z.borrow
 refine L_call rfl Tryz.call75 (ops2 rfl rfl) (strings_Split_c (x_:=line) (y_:=(⟨#[32]⟩ : ByteArray)) s15 hx10) ?_
 rintro r18_0 w18 ⟨_,rfl,Z⟩
 have Z:=k17 Z (co closed_str c0)
 refine aV r18_0 rfl (nq ?_)
 obtain ⟨x25,hx25,hF⟩:=bind_some hF
 obtain ⟨x28,hx28,hF⟩:=bind_some hF
 obtain ⟨x39,hx39,hF⟩:=bind_some hF
 obtain ⟨g52,cap_g52,hv53,_,_⟩:=Star.row 0 Z rfl hx28
 refine W_drawS 8 [anyF,isV (r18_0),isV (.pointer (some ⟨g52,Int.toNat 0 * 1,none⟩)),isV (.string x28),isV (I x39),isV (I (max 0 x39)),isV (.agg #[I (max 0 x39),S0,S0,I 0,S0]),anyF] [oF 9 RP.str r18_0 x10,box g3 49 #[I 0,S0,S0,I 0,S0]] [.made 0 10 (fun v_=>oF 9 RP.str v_ x25) none,.made 7 4 (fun v_=>boxV v_ 49 #[I 0,S0,S0,I 0,S0]) none] ([]) [([],[0]),([],[]),([],[]),([],[]),([0],[0]),([],[]),([],[]),([],[1])] (S:=[(some 0,[10],none),(some 7,[4],none)]) Tryz_mix (by kernel_rfl) rfl (by kernel_rfl) (amF_cons (mono_any) (amF_cons (mono_V _) (amF_cons (mono_V _) (amF_cons (mono_V _) (amF_cons (mono_V _) (amF_cons (mono_V _) (amF_cons (mono_V _) (amF_cons (mono_any) amF_nil)))))))) Z ?_ (fun f w_ H44 hS44 hE44 hT44 Z=>?_)
 refine opsS_cons ?_ ?_
 intro f w_ H44 X44 hS44 hE44 hP44 Z
 obtain ⟨H65b,l66,s67,z68,k69⟩:=Z.borrow
 refine L_call rfl Tryz.call78 ops0 (i_ruleWords_c s67 hx25) ?_
 rintro r70_0 w70 ⟨_,rfl,Z⟩
 have Z:=k69 Z (co closed_str c0)
 have Z:=Z.gets [2,2] rfl
 exact L_nil ⟨rfl,_,_,rfl,Le.refl _,fun _ _=>trivial,Z⟩
 refine opsS_cons (fun f w_ _ _ s _ _ Z=>mF ((s 3 rfl).trans rfl) rfl (nO rfl rfl Z)) (opsS_cons (fun f w_ _ _ _ _ p Z=>L_ixO (R:=(OR.frz RP.str)) (tb:=0) 0 rfl Tryz.underlying44 Tryz.sizeOf9 (p 1 11 rfl rfl) hv53 (by first | rfl | simp) rfl hx28 (nO rfl rfl Z)) (opsS_cons ?_ ?_))
 intro f w_ H44 X44 hS44 hE44 hP44 Z
 obtain ⟨cs72,hr72,hat72⟩:=Star.eltF 0 Z rfl hv53 hx28
 obtain rfl : _ = [_]:=hr72
 refine L_ld rfl Tryz.isAgg9 (hP44 2 12 rfl rfl) (At.cell hat72 (j:=0) rfl) (L_nil ⟨rfl,_,_,rfl,Le.refl _,fun _ _=>rfl,Z⟩)
 refine opsS_cons ?_ ?_
 intro f w_ H44 X44 hS44 hE44 hP44 Z
 have Z : Star H44 w_ (oF 9 RP.str r18_0 x10 :: box g3 49 #[I 0,S0,S0,I 0,S0] :: oF 9 RP.str (f 10) x25 :: X44):=Z
 obtain ⟨H75b,l76,s77,z78,k79⟩:=Z.borrow
 have hb80 : (rS 9 RP.str).rel H75b [(f 10)] x25:=fz_own 2 z78 rfl
 refine L_call rfl Tryz.call77 (ops2 rfl (hP44 3 13 rfl rfl)) (slices_Index_string_c (s:=x25) (v_:=x28) s77 hb80 hx39) ?_
 rintro _ w81 ⟨rfl,Z⟩
 have Z:=k79 Z c0
 exact L_nil ⟨rfl,_,_,rfl,Le.refl _,fun _ _=>rfl,Z⟩
 refine opsS_cons (fun f w_ _ _ _ _ p Z=>L_max rfl rfl (p 4 14 rfl rfl) (nO rfl rfl Z)) (opsS_cons (fun f w_ _ _ _ _ p Z=>L_bld rfl (parts1 (p 5 15 rfl rfl)) (bld_49_0 (I (max 0 x39)) rfl) (nO rfl rfl Z)) (opsS_cons ?_ ?_))
 intro f w_ H44 X44 hS44 hE44 hP44 Z
 refine L_al (cs:=#[I 0,S0,S0,I 0,S0]) rfl Tryz.zeroValue49 rfl Z (fun g82 w83 Z=>?_)
 have Z:=Z.gets [2,2,2] rfl
 have Z:=Star.boxV (v:=Pt g82) rfl Z
 have Z:=Z.gets [2,2] rfl
 exact L_nil ⟨rfl,_,_,rfl,Le.refl _,fun _ _=>trivial,Z⟩
 exact opsS_nil
 have Z : Star H44 w_ ([oF 9 RP.str r18_0 x10,box g3 49 #[I 0,S0,S0,I 0,S0],oF 9 RP.str (f 10) x25,boxV (f 4) 49 #[I 0,S0,S0,I 0,S0]]):=Z
 obtain ⟨g84,hv84,Z⟩:=Star.unboxV (Star.get 3 Z rfl)
 refine L_staB (vs:=#[I (max 0 x39),S0,S0,I 0,S0]) (cs2:=#[I (max 0 x39),S0,S0,I 0,S0]) 0 rfl Tryz.sizeOf49 hv84 (hT44 6 16 rfl rfl) rfl (ones_cons rfl (ones_cons rfl (ones_cons rfl (ones_cons rfl (ones_cons rfl ones_nil))))) Z rfl (by show 0 + 5≤5; decide) rfl (fun w85 Z=>L_nil (W_seq (sq (fA 0 fa_49_0 hv84 rfl (ldB 0 Z Tryz.isAgg3 rfl rfl rfl (L_eql rfl rfl rfl (nn (W_cond (b:=((max 0 x39) == 1)) rfl (fun hc86=>?_) (fun hc86=>?_)))))))))
 have hF:=(ite_t hc86).symm.trans hF
 refine W_seq (sq (aI rfl (nn ?_)))
 obtain ⟨j95,hL95,hF⟩:=bind_some hF
 obtain ⟨R95,hR95⟩:=exR fun f w_=>∃ i_88 : Int,∃ g84_1_89 : List Int,∃ g84_2_91 : List Int,∃ H93 : FH,∃ v89_g84_1 v91_g84_2 : Value,j95 = .nx (i_88,g84_1_89,g84_2_91)∧Le H44 H93∧f 2 = Pt g3∧f 3 = r18_0∧f 4 = Pt g84∧Star H93 w_ ([oF 9 RP.str r18_0 x10,oF 3 RP.int v89_g84_1 g84_1_89,oF 3 RP.int v91_g84_2 g84_2_91,box g84 49 #[I (max 0 x39),v89_g84_1,v91_g84_2,I 0,S0],box g3 49 #[I 0,S0,S0,I 0,S0]])
 refine W_join R95 ?_ ?_
 refine W_block ?_
 obtain ⟨I95,hI95⟩:=exI fun n f w_=>∃ i_88 : Int,∃ g84_1_89 : List Int,∃ g84_2_91 : List Int,∃ H93 : FH,∃ v89_g84_1 v91_g84_2 : Value,whileL (i_readRule_b1 x10) n (i_88,g84_1_89,g84_2_91) = some j95∧Le H44 H93∧f 2 = Pt g3∧f 3 = r18_0∧f 4 = Pt g84∧f 5 = I i_88∧Star H93 w_ ([oF 9 RP.str r18_0 x10,oF 3 RP.int v89_g84_1 g84_1_89,oF 3 RP.int v91_g84_2 g84_2_91,box g84 49 #[I (max 0 x39),v89_g84_1,v91_g84_2,I 0,S0],box g3 49 #[I 0,S0,S0,I 0,S0]])
 have Z:=Star.addNil (R:=(OR.frz RP.int)) (e:=3) Z
 have Z:=Star.addNil (R:=(OR.frz RP.int)) (e:=3) Z
 have Z:=Z.gets [4,3,2,3,4] rfl
 refine W_loop I95 (n:=fu) ?_ ?_
 exact ij hI95 ⟨1,[],[],H44,S0,S0,hL95,(Le.refl _),((hS44 2 rfl).trans rfl),((hS44 3 rfl).trans rfl),hv84,rfl,(Star.keepN 5 Z)⟩
 intro n95 f w_ hI
 obtain ⟨i_88,g84_1_89,g84_2_91,H93,v89_g84_1,v91_g84_2,hL95,l94,sf2,sf3,sf4,sf5,Z⟩:=ik hI95 hI
 rcases n95 with _ | n95
 exact (while_zero hL95).elim
 obtain ⟨o95,hB95,hL95⟩:=while_succ hL95
 rw [i_readRule_b1] at hB95
 refine W_seq (W_seq ?_)
 obtain ⟨b103,hb103,hB95⟩:=bind_some hB95
 obtain ⟨R104,hR104⟩:=exR fun f w_=>f 2 = Pt g3∧f 3 = r18_0∧f 4 = Pt g84∧f 5 = I i_88∧f 31 = Bo b103∧Star H93 w_ ([oF 9 RP.str r18_0 x10,oF 3 RP.int v89_g84_1 g84_1_89,oF 3 RP.int v91_g84_2 g84_2_91,box g84 49 #[I (max 0 x39),v89_g84_1,v91_g84_2,I 0,S0],box g3 49 #[I 0,S0,S0,I 0,S0]])
 refine W_join R104 ?_ ?_
 refine W_region (mF sf5 rfl (L_add rfl rfl rfl (mF sf3 rfl (L_len rfl Tryz.underlying44 rfl (Star.len 0 Z rfl) (L_lss rfl rfl rfl (mB rfl (L_split (d:=25) (b:=decide ((i64 (i_88 + 1)) < (x10.length : Int))) rfl (fun hc105=>?_) (fun hc105=>?_))))))))
 rw [ite_t hc105] at hb103
 obtain ⟨x98,hx98,hb103⟩:=bind_some hb103
 refine mF sf3 rfl (mF sf5 rfl ?_)
 obtain ⟨g106,cap_g106,hv107,_,_⟩:=Star.row 0 Z rfl hx98
 refine L_ixO (R:=(OR.frz RP.str)) (tb:=0) 0 rfl Tryz.underlying44 Tryz.sizeOf9 rfl hv107 (by first | rfl | simp) rfl hx98 ?_
 obtain ⟨cs108,hr108,hat108⟩:=Star.eltF 0 Z rfl hv107 hx98
 obtain rfl : _ = [_]:=hr108
 refine L_ld rfl Tryz.isAgg9 rfl (At.cell hat108 (j:=0) rfl) (L_sneq (s:=x98) (s':=(⟨#[62,61]⟩ : ByteArray)) rfl rfl rfl (L_pick (v:=Bo b103) rfl rfl (congrArg Value.bool (so hb103)) (nn (rj hR104 ⟨sf2,sf3,sf4,sf5,rfl,Z⟩))))
 rw [ite_f hc105] at hb103
 refine ps rfl (ps rfl (ps rfl (ps rfl (ps rfl (L_pick (v:=Bo b103) rfl rfl (congrArg Value.bool (so hb103)) (nn (rj hR104 ⟨sf2,sf3,sf4,sf5,rfl,Z⟩)))))))
 intro f w_ hR
 obtain ⟨sf2,sf3,sf4,sf5,sf31,Z⟩:=rk hR104 hR
 refine W_cond (b:=b103) sf31 (fun hc110=>?_) (fun hc110=>?_)
 have hB95:=(ite_t hc110).symm.trans hB95
 refine W_skip (W_seq (W_block ?_))
 obtain ⟨x111,hx111,hB95⟩:=bind_some hB95
 obtain ⟨x121,hx121,hB95⟩:=bind_some hB95
 obtain ⟨x126,hx126,hB95⟩:=bind_some hB95
 obtain ⟨x130,hx130,hB95⟩:=bind_some hB95
 obtain ⟨x138,hx138,hB95⟩:=bind_some hB95
 obtain ⟨x143,hx143,hB95⟩:=bind_some hB95
 obtain ⟨g150,cap_g150,hv151,_,_⟩:=Star.row 0 Z rfl hx111
 have Z:=Z.gets [2,2,4,4,4] rfl
 refine W_drawS 20 [isV (Pq g84 2),isV (v91_g84_2),isV (r18_0),isV (I i_88),isV (.pointer (some ⟨g150,Int.toNat i_88 * 1,none⟩)),isV (.string x111),isV (I x121),anyF,anyF,isV (Pq g84 1),isV (v89_g84_1),isV (r18_0),isV (I i_88),isV (I (i64 (i_88 + 1))),isV (.pointer (some ⟨g150,Int.toNat (i64 (i_88 + 1)) * 1,none⟩)),isV (.string x130),isV (I x138),anyF,anyF,isV (Pq g84 2)] [oF 9 RP.str r18_0 x10,box g84 49 #[I (max 0 x39),v89_g84_1,v91_g84_2,I 0,S0],box g3 49 #[I 0,S0,S0,I 0,S0]] [.base (oF 3 RP.int v89_g84_1 g84_1_89) (some 18),.base (oF 3 RP.int v91_g84_2 g84_2_91) (some 8),.made 7 41 (fun v_=>oF 3 RP.int v_ ([x121])) (some 8),.made 8 42 (fun v_=>oF 3 RP.int v_ x126) none,.made 17 51 (fun v_=>oF 3 RP.int v_ ([x138])) (some 18),.made 18 52 (fun v_=>oF 3 RP.int v_ x143) none] ([]) [([],[]),([],[]),([],[]),([],[]),([],[]),([],[]),([],[]),([],[2]),([1,2],[3]),([],[]),([],[]),([],[]),([],[]),([],[]),([],[]),([],[]),([],[]),([],[4]),([0,4],[5]),([],[])] (S:=[(none,[],some 18),(none,[],some 8),(some 7,[41],some 8),(some 8,[42],none),(some 17,[51],some 18),(some 18,[52],none)]) Tryz_mix (by kernel_rfl) rfl (by kernel_rfl) (amF_cons (mono_V _) (amF_cons (mono_V _) (amF_cons (mono_V _) (amF_cons (mono_V _) (amF_cons (mono_V _) (amF_cons (mono_V _) (amF_cons (mono_V _) (amF_cons (mono_any) (amF_cons (mono_any) (amF_cons (mono_V _) (amF_cons (mono_V _) (amF_cons (mono_V _) (amF_cons (mono_V _) (amF_cons (mono_V _) (amF_cons (mono_V _) (amF_cons (mono_V _) (amF_cons (mono_V _) (amF_cons (mono_any) (amF_cons (mono_any) (amF_cons (mono_V _) amF_nil)))))))))))))))))))) Z ?_ (fun f w_ H149 hS149 hE149 hT149 Z=>?_)
 refine opsS_cons (fun f w_ _ _ s _ _ Z=>fA 2 fa_49_2 ((s 4 rfl).trans sf4) rfl (nO rfl rfl Z)) (opsS_cons (fun f w_ _ _ _ _ p Z=>ldB 1 Z Tryz.isAgg22 (p 0 34 rfl rfl) rfl rfl (nO rfl rfl Z)) (opsS_cons (fun f w_ _ _ s _ _ Z=>mF ((s 3 rfl).trans sf3) rfl (nO rfl rfl Z)) (opsS_cons (fun f w_ _ _ s _ _ Z=>mF ((s 5 rfl).trans sf5) rfl (nO rfl rfl Z)) (opsS_cons (fun f w_ _ _ _ _ p Z=>L_ixO (R:=(OR.frz RP.str)) (tb:=0) 0 rfl Tryz.underlying44 Tryz.sizeOf9 (p 2 36 rfl rfl) hv151 (by first | rfl | simp) (p 3 37 rfl rfl) hx111 (nO rfl rfl Z)) (opsS_cons ?_ ?_)))))
 intro f w_ H149 X149 hS149 hE149 hP149 Z
 obtain ⟨cs180,hr180,hat180⟩:=Star.eltF 0 Z rfl hv151 hx111
 obtain rfl : _ = [_]:=hr180
 refine L_ld rfl Tryz.isAgg9 (hP149 4 38 rfl rfl) (At.cell hat180 (j:=0) rfl) (L_nil ⟨rfl,_,_,rfl,Le.refl _,fun _ _=>rfl,Z⟩)
 refine opsS_cons ?_ ?_
 intro f w_ H149 X149 hS149 hE149 hP149 Z
 obtain ⟨H182b,l183,s184,z185,k186⟩:=Z.borrow
 refine L_call rfl Tryz.call79 (ops1 (hP149 5 39 rfl rfl)) (i_number_c (s:=x111) s184 hx121) ?_
 rintro _ w187 ⟨rfl,Z⟩
 have Z:=k186 Z c0
 exact L_nil ⟨rfl,_,_,rfl,Le.refl _,fun _ _=>rfl,Z⟩
 refine opsS_cons ?_ ?_
 intro f w_ H149 X149 hS149 hE149 hP149 Z
 refine L_bs rfl (parts1 (hP149 6 40 rfl rfl)) (bs_22_1_0 (I x121) rfl) Z (fun g188 w189 Z=>?_)
 have Z:=Star.addF (r:=RP.int) (cs:=[I x121]) (x:=x121) Z rfl
 have Z:=Star.mkRow (R:=(OR.frz RP.int)) [([I x121],x121)] [x121] 1 Z rfl rfl rfl (by decide)
 have Z:=Z.gets [3,3,3] rfl
 exact L_nil ⟨rfl,_,_,rfl,Le.refl _,fun _ _=>trivial,Z⟩
 refine opsS_cons ?_ ?_
 intro f w_ H149 X149 hS149 hE149 hP149 Z
 have Z : Star H149 w_ (oF 9 RP.str r18_0 x10 :: box g84 49 #[I (max 0 x39),v89_g84_1,v91_g84_2,I 0,S0] :: box g3 49 #[I 0,S0,S0,I 0,S0] :: oF 3 RP.int v91_g84_2 g84_2_91 :: oF 3 RP.int (f 41) ([x121]) :: X149):=Z
 have Z:=Z.gets [4,4] rfl
 refine L_appM (v:=v91_g84_2) (u:=(f 41)) rfl et_22 (hP149 1 35 rfl rfl) rfl Z hx126 (fun v192 w193 Z=>?_)
 have Z:=Z.gets [3,3,3] rfl
 exact L_nil ⟨rfl,_,_,rfl,Le.refl _,fun _ _=>trivial,Z⟩
 refine opsS_cons (fun f w_ _ _ s _ _ Z=>fA 1 fa_49_1 ((s 4 rfl).trans sf4) rfl (nO rfl rfl Z)) (opsS_cons (fun f w_ _ _ _ _ p Z=>ldB 1 Z Tryz.isAgg22 (p 9 43 rfl rfl) rfl rfl (nO rfl rfl Z)) (opsS_cons (fun f w_ _ _ s _ _ Z=>mF ((s 3 rfl).trans sf3) rfl (nO rfl rfl Z)) (opsS_cons (fun f w_ _ _ s _ _ Z=>mF ((s 5 rfl).trans sf5) rfl (nO rfl rfl Z)) (opsS_cons (fun f w_ _ _ _ _ p Z=>L_add rfl (p 12 46 rfl rfl) rfl (nO rfl rfl Z)) (opsS_cons (fun f w_ _ _ _ _ p Z=>L_ixO (R:=(OR.frz RP.str)) (tb:=0) 0 rfl Tryz.underlying44 Tryz.sizeOf9 (p 11 45 rfl rfl) hv151 (by first | rfl | simp) (p 13 47 rfl rfl) hx130 (nO rfl rfl Z)) (opsS_cons ?_ ?_))))))
 intro f w_ H149 X149 hS149 hE149 hP149 Z
 obtain ⟨cs195,hr195,hat195⟩:=Star.eltF 0 Z rfl hv151 hx130
 obtain rfl : _ = [_]:=hr195
 refine L_ld rfl Tryz.isAgg9 (hP149 14 48 rfl rfl) (At.cell hat195 (j:=0) rfl) (L_nil ⟨rfl,_,_,rfl,Le.refl _,fun _ _=>rfl,Z⟩)
 refine opsS_cons ?_ ?_
 intro f w_ H149 X149 hS149 hE149 hP149 Z
 obtain ⟨H197b,l198,s199,z200,k201⟩:=Z.borrow
 refine L_call rfl Tryz.call79 (ops1 (hP149 15 49 rfl rfl)) (i_number_c (s:=x130) s199 hx138) ?_
 rintro _ w202 ⟨rfl,Z⟩
 have Z:=k201 Z c0
 exact L_nil ⟨rfl,_,_,rfl,Le.refl _,fun _ _=>rfl,Z⟩
 refine opsS_cons ?_ ?_
 intro f w_ H149 X149 hS149 hE149 hP149 Z
 refine L_bs rfl (parts1 (hP149 16 50 rfl rfl)) (bs_22_1_0 (I x138) rfl) Z (fun g203 w204 Z=>?_)
 have Z:=Star.addF (r:=RP.int) (cs:=[I x138]) (x:=x138) Z rfl
 have Z:=Star.mkRow (R:=(OR.frz RP.int)) [([I x138],x138)] [x138] 1 Z rfl rfl rfl (by decide)
 have Z:=Z.gets [3,3,3] rfl
 exact L_nil ⟨rfl,_,_,rfl,Le.refl _,fun _ _=>trivial,Z⟩
 refine opsS_cons ?_ ?_
 intro f w_ H149 X149 hS149 hE149 hP149 Z
 have Z : Star H149 w_ (oF 9 RP.str r18_0 x10 :: box g84 49 #[I (max 0 x39),v89_g84_1,v91_g84_2,I 0,S0] :: box g3 49 #[I 0,S0,S0,I 0,S0] :: oF 3 RP.int v89_g84_1 g84_1_89 :: oF 3 RP.int (f 51) ([x138]) :: X149):=Z
 have Z:=Z.gets [4,4] rfl
 refine L_appM (v:=v89_g84_1) (u:=(f 51)) rfl et_22 (hP149 10 44 rfl rfl) rfl Z hx143 (fun v207 w208 Z=>?_)
 have Z:=Z.gets [3,3,3] rfl
 exact L_nil ⟨rfl,_,_,rfl,Le.refl _,fun _ _=>trivial,Z⟩
 refine opsS_cons (fun f w_ _ _ s _ _ Z=>fA 2 fa_49_2 ((s 4 rfl).trans sf4) rfl (nO rfl rfl Z)) (opsS_nil)
 have Z : Star H149 w_ ([oF 9 RP.str r18_0 x10,box g84 49 #[I (max 0 x39),v89_g84_1,v91_g84_2,I 0,S0],box g3 49 #[I 0,S0,S0,I 0,S0],oF 3 RP.int (f 42) x126,oF 3 RP.int (f 52) x143]):=Z
 refine L_stB (v:=(f 42)) (cs2:=#[I (max 0 x39),v89_g84_1,(f 42),I 0,S0]) 1 rfl Tryz.sizeOf22 (hT149 19 53 rfl rfl) rfl (one_len (Star.len 3 Z rfl)) Z rfl rfl rfl (fun w212 Z=>fA 1 fa_49_1 ((hS149 4 rfl).trans sf4) rfl (L_stB (v:=(f 52)) (cs2:=#[I (max 0 x39),(f 52),(f 42),I 0,S0]) 0 rfl Tryz.sizeOf22 rfl rfl (one_len (Star.len 4 Z rfl)) Z rfl rfl rfl (fun w213 Z=>nn (W_region (mF ((hS149 5 rfl).trans sf5) rfl (L_add rfl rfl rfl (aI rfl (nn ?_))))))))
 obtain rfl:=so hB95
 have Z:=Z.gets [2,1,3,4,4] rfl
 show ∃ m,m < _∧I95 m _ _
 refine ⟨n95,Nat.lt_succ_self _,?_⟩
 exact ij hI95 ⟨i64 (i_88 + 2),x143,x126,H149,(f 52),(f 42),hL95,(Le.trans l94 hE149),((hS149 2 rfl).trans sf2),((hS149 3 rfl).trans sf3),((hS149 4 rfl).trans sf4),rfl,Z⟩
 have hB95:=(ite_f hc110).symm.trans hB95
 refine W_exit ?_
 obtain rfl:=so hB95
 obtain rfl:=so hL95
 exact rj hR95 ⟨i_88,g84_1_89,g84_2_91,H93,v89_g84_1,v91_g84_2,rfl,l94,sf2,sf3,sf4,Z⟩
 intro f w_ hR
 obtain ⟨i_88,g84_1_89,g84_2_91,H93,v89_g84_1,v91_g84_2,rfl,l94,sf2,sf3,sf4,Z⟩:=rk hR95 hR
 refine W_seq ?_
 obtain ⟨x214,hx214,hF⟩:=bind_some hF
 obtain ⟨x224,hx224,hF⟩:=bind_some hF
 refine W_region (mF sf3 rfl (mF sf3 rfl (L_len rfl Tryz.underlying44 rfl (Star.len 0 Z rfl) (L_sub rfl rfl rfl ?_))))
 obtain ⟨g227,cap_g227,hv228,_,_⟩:=Star.row 0 Z rfl hx214
 refine L_ixO (R:=(OR.frz RP.str)) (tb:=0) 0 rfl Tryz.underlying44 Tryz.sizeOf9 rfl hv228 (by first | rfl | simp) rfl hx214 ?_
 obtain ⟨cs229,hr229,hat229⟩:=Star.eltF 0 Z rfl hv228 hx214
 obtain rfl : _ = [_]:=hr229
 refine L_ld rfl Tryz.isAgg9 rfl (At.cell hat229 (j:=0) rfl) ?_
 obtain ⟨H231b,l232,s233,z234,k235⟩:=Z.borrow
 refine L_call rfl Tryz.call79 (ops1 rfl) (i_number_c (s:=x214) s233 hx224) ?_
 rintro _ w236 ⟨rfl,Z⟩
 have Z:=k235 Z c0
 refine fA 3 fa_49_3 sf4 rfl (L_stB (v:=I x224) (cs2:=#[I (max 0 x39),v89_g84_1,v91_g84_2,I x224,S0]) 3 rfl Tryz.sizeOf3 rfl rfl rfl Z rfl rfl rfl (fun w237 Z=>ns (L_lda (cs:=[I (max 0 x39),v89_g84_1,v91_g84_2,I x224,S0]) rfl Tryz.isAgg49 Tryz.sizeOf49 sf4 (At.sub0 (Blk.at (Star.blkAt 0 Z rfl)) 0 5) rfl (L_staB (vs:=#[I (max 0 x39),v89_g84_1,v91_g84_2,I x224,S0]) (cs2:=#[I (max 0 x39),v89_g84_1,v91_g84_2,I x224,S0]) 4 rfl Tryz.sizeOf49 sf2 rfl rfl (ones_cons rfl (ones_cons (one_len (Star.len 2 Z rfl)) (ones_cons (one_len (Star.len 3 Z rfl)) (ones_cons rfl (ones_cons rfl ones_nil))))) Z rfl (by show 0 + 5≤5; decide) rfl (fun w239 Z=>nn (W_ret (retG1 (v1:=.agg #[I (max 0 x39),v89_g84_1,v91_g84_2,I x224,S0]) Tryz.results35 (resV_agg Tryz.isAgg49 Tryz.sizeOf49 sf2 (Star.blkAt 0 Z rfl) rfl) ?_)))))))
 obtain rfl:=so hF
 have Z:=Star.addNil (R:=(OR.ownS 3 (OR.frz RP.int))) (e:=22) Z
 have Z:=Z.gets [5,5] rfl
 exact ⟨v89_g84_1,v91_g84_2,S0,rfl,(Star.down (Star.keepN 3 Z) (Le.trans hE44 l94) (co closed_int (co closed_int (cc (closed_own (OR.closed_ownS (OR.closed_ownS closed_int)) _ _) c0))))⟩
 have hF:=(ite_f hc86).symm.trans hF
 refine W_skip (W_seq (sq (mF ((hS44 3 rfl).trans rfl) rfl (L_len rfl Tryz.underlying44 rfl (Star.len 1 Z rfl) (L_gtr rfl rfl rfl (nn ?_))))))
 obtain ⟨⟨g84_1_241,g84_4_243⟩,hA247,hF⟩:=bind_some hF
 obtain ⟨R247,hR247⟩:=exR fun f w_=>∃ H245 : FH,∃ v241_g84_1 v243_g84_4 : Value,Le H44 H245∧f 2 = Pt g3∧f 4 = Pt g84∧Star H245 w_ ([oF 3 RP.int v241_g84_1 g84_1_241,own (OR.ownS 22 (OR.ownS 3 (OR.frz RP.int))) [v243_g84_4] g84_4_243,box g84 49 #[I (max 0 x39),v241_g84_1,S0,I 0,v243_g84_4],box g3 49 #[I 0,S0,S0,I 0,S0]])
 refine W_join R247 ?_ ?_
 refine W_cond (b:=decide ((x10.length : Int) > 1)) rfl (fun hc248=>?_) (fun hc248=>?_)
 have hA247:=(ite_t hc248).symm.trans hA247
 refine W_seq ?_
 obtain ⟨x249,hx249,hA247⟩:=bind_some hA247
 obtain ⟨x257,hx257,hA247⟩:=bind_some hA247
 refine W_region (mF ((hS44 3 rfl).trans rfl) rfl (L_ixO (R:=(OR.frz RP.str)) (tb:=0) 0 rfl Tryz.underlying44 Tryz.sizeOf9 rfl hv53 (by first | rfl | simp) rfl hx249 ?_))
 obtain ⟨cs261,hr261,hat261⟩:=Star.eltF 1 Z rfl hv53 hx249
 obtain rfl : _ = [_]:=hr261
 refine L_ld rfl Tryz.isAgg9 rfl (At.cell hat261 (j:=0) rfl) ?_
 obtain ⟨H263b,l264,s265,z266,k267⟩:=Z.borrow
 refine L_call rfl Tryz.call34 (ops1 rfl) (i_readDigits_c (s:=x249) s265 hx257) ?_
 rintro r268_0 w268 ⟨_,rfl,Z⟩
 have Z:=k267 Z (co closed_int c0)
 refine fA 1 fa_49_1 hv84 rfl (L_stB (v:=r268_0) (cs2:=#[I (max 0 x39),r268_0,S0,I 0,S0]) 1 rfl Tryz.sizeOf22 rfl rfl (one_len (Star.len 0 Z rfl)) Z rfl rfl rfl (fun w270 Z=>nq ?_))
 obtain ⟨x271,hx271,hA247⟩:=bind_some hA247
 refine W_region (mF ((hS44 3 rfl).trans rfl) rfl ?_)
 have Z:=Z.get 2 rfl
 obtain ⟨H278,l279,Z,hz280⟩:=Star.freeze Z
 have hz280 : (rS 9 RP.str).rel H278 [r18_0] x10:=hz280
 refine L_sl (a:=2) (b:=(x10.length : Int)) rfl et_44 rfl hz280 rfl rfl hx271 (fun v277 hs281=>L_len rfl Tryz.underlying44 rfl (slice_len hs281) (mI rfl (nn ?_)))
 have hlen287 : List.length x271≤9223372036854775807:=len_le (slice_len hs281)
 obtain ⟨j287,hL287,hA247⟩:=bind_some hA247
 obtain ⟨R287,hR287⟩:=exR fun f w_=>∃ g84_4_283 : List (List Int),∃ H285 : FH,∃ v283_g84_4 : Value,j287 = .nx g84_4_283∧Le H278 H285∧f 2 = Pt g3∧f 4 = Pt g84∧Star H285 w_ ([oF 3 RP.int r268_0 x257,own (OR.ownS 22 (OR.ownS 3 (OR.frz RP.int))) [v283_g84_4] g84_4_283,box g84 49 #[I (max 0 x39),r268_0,S0,I 0,v283_g84_4],box g3 49 #[I 0,S0,S0,I 0,S0]])
 refine W_join R287 ?_ ?_
 refine W_block ?_
 obtain ⟨I287,hI287⟩:=exI fun n f w_=>∃ i_282 : Nat,∃ suf287 : List ByteArray,∃ g84_4_283 : List (List Int),∃ H285 : FH,∃ v283_g84_4 : Value,n = suf287.length∧List.drop i_282 x271 = suf287∧i_282 + suf287.length = x271.length∧rangeL i_readRule_b2 suf287 i_282 g84_4_283 = some j287∧Le H278 H285∧f 2 = Pt g3∧f 4 = Pt g84∧f 73 = v277∧f 74 = I (x271.length : Int)∧f 75 = I i_282∧Star H285 w_ ([oF 3 RP.int r268_0 x257,own (OR.ownS 22 (OR.ownS 3 (OR.frz RP.int))) [v283_g84_4] g84_4_283,box g84 49 #[I (max 0 x39),r268_0,S0,I 0,v283_g84_4],box g3 49 #[I 0,S0,S0,I 0,S0]])
 have Z:=Star.addNil (R:=(OR.ownS 3 (OR.frz RP.int))) (e:=22) Z
 have Z:=Z.gets [3,2,2,3] rfl
 refine W_loop I287 (n:=x271.length) ?_ ?_
 exact ij hI287 ⟨0,x271,[],H278,S0,rfl,rfl,Nat.zero_add _,hL287,(Le.refl _),((hS44 2 rfl).trans rfl),hv84,rfl,rfl,rfl,(Star.keepN 4 Z)⟩
 intro n287 f w_ hI
 obtain ⟨i_282,suf287,g84_4_283,H285,v283_g84_4,rfl,hd287,hl287,hL287,l286,sf2,sf4,sf73,sf74,sf75,Z⟩:=ik hI287 hI
 refine sq (L_lss rfl sf75 sf74 (nq (W_cond (b:=decide ((i_282 : Int) < (x271.length : Int))) rfl (fun hc289=>?_) (fun hc289=>?_))))
 have hlt287:=of_decide_eq_true hc289
 rcases suf287 with _ | ⟨x_287,rest287⟩
 exact absurd hlt287 (by simp at hl287; omega)
 obtain ⟨o287,hB287,hL287⟩:=range_cons hL287
 rw [i_readRule_b2] at hB287
 have hix287:=drop_idx hd287
 refine W_skip (W_seq (W_block (sq (L_ix (r:=RP.str) rfl Tryz.underlying44 Tryz.sizeOf9 sf73 (RP.mono _ hs281 l286) sf75 hix287 (fun g294 o295 cs_g294 hrk_hat296 hat296=>?_)))))
 obtain rfl : _ = [_]:=hrk_hat296
 refine L_ld rfl Tryz.isAgg9 rfl (At.cell (AtH.at hat296 Z.sub) (j:=0) rfl) (aV (.string x_287) rfl (nn ?_))
 obtain ⟨x303,hx303,hB287⟩:=bind_some hB287
 obtain ⟨x309,hx309,hB287⟩:=bind_some hB287
 refine W_drawS 5 [isV (Pq g84 4),isV (v283_g84_4),isV (.string x_287),anyF,anyF] [oF 3 RP.int r268_0 x257,own (OR.ownS 22 (OR.ownS 3 (OR.frz RP.int))) [v283_g84_4] g84_4_283,box g84 49 #[I (max 0 x39),r268_0,S0,I 0,v283_g84_4],box g3 49 #[I 0,S0,S0,I 0,S0]] [.made 3 82 (fun v_=>oF 3 RP.int v_ x303) (some 4),.made 4 83 (fun v_=>own (OR.ownS 22 (OR.ownS 3 (OR.frz RP.int))) [v_] ([x303])) none] ([]) [([],[]),([],[]),([],[]),([],[0]),([0],[1])] (S:=[(some 3,[82],some 4),(some 4,[83],none)]) Tryz_mix (by kernel_rfl) rfl (by kernel_rfl) (amF_cons (mono_V _) (amF_cons (mono_V _) (amF_cons (mono_V _) (amF_cons (mono_any) (amF_cons (mono_any) amF_nil))))) Z ?_ (fun f w_ H314 hS314 hE314 hT314 Z=>?_)
 refine opsS_cons (fun f w_ _ _ s _ _ Z=>fA 4 fa_49_4 ((s 4 rfl).trans sf4) rfl (nO rfl rfl Z)) (opsS_cons (fun f w_ _ _ _ _ p Z=>ldB 2 Z Tryz.isAgg47 (p 0 79 rfl rfl) rfl rfl (nO rfl rfl Z)) (opsS_cons (fun f w_ _ _ s _ _ Z=>mF ((s 7 rfl).trans rfl) rfl (nO rfl rfl Z)) (opsS_cons ?_ ?_)))
 intro f w_ H314 X314 hS314 hE314 hP314 Z
 obtain ⟨H325b,l326,s327,z328,k329⟩:=Z.borrow
 refine L_call rfl Tryz.call34 (ops1 (hP314 2 81 rfl rfl)) (i_readDigits_c (s:=x_287) s327 hx303) ?_
 rintro r330_0 w330 ⟨_,rfl,Z⟩
 have Z:=k329 Z (co closed_int c0)
 have Z:=Z.gets [4,4,4,4] rfl
 exact L_nil ⟨rfl,_,_,rfl,Le.refl _,fun _ _=>trivial,Z⟩
 refine opsS_cons ?_ ?_
 intro f w_ H314 X314 hS314 hE314 hP314 Z
 have Z : Star H314 w_ (oF 3 RP.int r268_0 x257 :: own (OR.ownS 22 (OR.ownS 3 (OR.frz RP.int))) [v283_g84_4] g84_4_283 :: box g84 49 #[I (max 0 x39),r268_0,S0,I 0,v283_g84_4] :: box g3 49 #[I 0,S0,S0,I 0,S0] :: oF 3 RP.int (f 82) x303 :: X314):=Z
 refine L_bs rfl (parts1 rfl) (bs_47_1_0 ((f 82)) (one_len (Star.len 4 Z rfl))) Z (fun g333 w334 Z=>?_)
 have Z:=Z.get 5 rfl
 have Z:=Star.mkRow (R:=(OR.ownS 3 (OR.frz RP.int))) [([(f 82)],x303)] [x303] 1 Z rfl rfl rfl (by decide)
 have Z:=Z.gets [4,4,4,4] rfl
 exact L_nil ⟨rfl,_,_,rfl,Le.refl _,fun _ _=>trivial,Z⟩
 exact opsS_nil
 have Z : Star H314 w_ ([oF 3 RP.int r268_0 x257,own (OR.ownS 22 (OR.ownS 3 (OR.frz RP.int))) [v283_g84_4] g84_4_283,box g84 49 #[I (max 0 x39),r268_0,S0,I 0,v283_g84_4],box g3 49 #[I 0,S0,S0,I 0,S0],own (OR.ownS 22 (OR.ownS 3 (OR.frz RP.int))) [(f 83)] ([x303])]):=Z
 have Z:=Z.gets [4,2] rfl
 refine L_appM (v:=v283_g84_4) (u:=(f 83)) rfl et_47 (hT314 1 80 rfl rfl) rfl Z hx309 (fun v337 w338 Z=>fA 4 fa_49_4 ((hS314 4 rfl).trans sf4) rfl (L_stB (v:=v337) (cs2:=#[I (max 0 x39),r268_0,S0,I 0,v337]) 2 rfl Tryz.sizeOf47 rfl rfl (one_len (Star.len 0 Z rfl)) Z rfl rfl rfl (fun w340 Z=>nn (W_region (L_add rfl ((hS314 75 rfl).trans sf75) rfl (mI rfl (nn ?_)))))))
 obtain rfl:=so hB287
 have Z:=Z.gets [3,1,2,3] rfl
 show ∃ m,m < _∧I287 m _ _
 refine ⟨rest287.length,by simp,?_⟩
 exact ij hI287 ⟨i_282 + 1,rest287,x309,H314,v337,rfl,drop_next hd287,by simp at hl287; omega,hL287,(Le.trans l286 hE314),((hS314 2 rfl).trans sf2),((hS314 4 rfl).trans sf4),((hS314 73 rfl).trans sf73),((hS314 74 rfl).trans sf74),(Eq.trans rfl (congrArg (Value.int .i64) (i64_succ (n:=x271.length) (by simp at hl287; omega) hlen287))),Z⟩
 rcases suf287 with _ | ⟨_,_⟩
 obtain rfl:=range_nil hL287
 refine W_exit (rj hR287 ⟨g84_4_283,H285,v283_g84_4,rfl,l286,sf2,sf4,Z⟩)
 exact absurd (of_decide_eq_false hc289) (by simp at hl287; omega)
 intro f w_ hR
 obtain ⟨g84_4_283,H285,v283_g84_4,rfl,l286,sf2,sf4,Z⟩:=rk hR287 hR
 obtain ⟨rfl,rfl⟩:=so2 hA247
 exact rj hR247 ⟨H285,r268_0,v283_g84_4,(Le.trans l279 l286),sf2,sf4,Z⟩
 have hA247:=(ite_f hc248).symm.trans hA247
 refine W_skip ?_
 obtain ⟨rfl,rfl⟩:=so2 hA247
 have Z:=Star.addNil (R:=(OR.frz RP.int)) (e:=3) Z
 have Z:=Star.addNil (R:=(OR.ownS 3 (OR.frz RP.int))) (e:=22) Z
 have Z:=Z.gets [4,3,2,3] rfl
 exact rj hR247 ⟨H44,S0,S0,(Le.refl _),((hS44 2 rfl).trans rfl),hv84,(Star.keepN 4 Z)⟩
 intro f w_ hR
 obtain ⟨H245,v241_g84_1,v243_g84_4,l246,sf2,sf4,Z⟩:=rk hR247 hR
 refine sq (L_lda (cs:=[I (max 0 x39),v241_g84_1,S0,I 0,v243_g84_4]) rfl Tryz.isAgg49 Tryz.sizeOf49 sf4 (At.sub0 (Blk.at (Star.blkAt 2 Z rfl)) 0 5) rfl (L_staB (vs:=#[I (max 0 x39),v241_g84_1,S0,I 0,v243_g84_4]) (cs2:=#[I (max 0 x39),v241_g84_1,S0,I 0,v243_g84_4]) 3 rfl Tryz.sizeOf49 sf2 rfl rfl (ones_cons rfl (ones_cons (one_len (Star.len 0 Z rfl)) (ones_cons rfl (ones_cons rfl (ones_cons (one_len (Star.len 1 Z rfl)) ones_nil))))) Z rfl (by show 0 + 5≤5; decide) rfl (fun w344 Z=>nn (W_ret (retG1 (v1:=.agg #[I (max 0 x39),v241_g84_1,S0,I 0,v243_g84_4]) Tryz.results35 (resV_agg Tryz.isAgg49 Tryz.sizeOf49 sf2 (Star.blkAt 0 Z rfl) rfl) ?_)))))
 obtain rfl:=so hF
 have Z:=Star.addNil (R:=(OR.frz RP.int)) (e:=3) Z
 have Z:=Z.gets [3,1,3] rfl
 exact ⟨v241_g84_1,S0,v243_g84_4,rfl,(Star.down (Star.keepN 3 Z) (Le.trans hE44 l246) (co closed_int (co closed_int (cc (closed_own (OR.closed_ownS (OR.closed_ownS closed_int)) _ _) c0))))⟩
theorem i_digits_c {list : List Int} {v0 : Value} {H : FH} {w : World} (Z : Star H w []) (h0 : (rS 3 RP.int).rel H [v0] list) {r : ByteArray} (hF : i_digits list = some r) :
 C Tryz.prog 80 #[v0] w fun v w'=>v = .string r∧Star H w' []:=by
 unfold i_digits at hF
 refine C_enter Tryz.func80 rfl Tryz.ntmps80 rfl (sq (aV (.string (⟨#[]⟩ : ByteArray)) rfl (ns (aV (.string (⟨#[]⟩ : ByteArray)) rfl (nq (sq (mV v0 rfl (L_len rfl Tryz.underlying22 rfl (slice_len h0) (mI rfl (nn ?_))))))))))
 have hlen3 : List.length list≤9223372036854775807:=len_le (slice_len h0)
 obtain ⟨j3,hL3,hF⟩:=bind_some hF
 obtain ⟨R3,hR3⟩:=exR fun f w_=>∃ out_2 : ByteArray,j3 = .nx out_2∧f 3 = .string out_2∧Star H w_ ([])
 refine W_join R3 ?_ ?_
 refine W_block ?_
 obtain ⟨I3,hI3⟩:=exI fun n f w_=>∃ i_1 : Nat,∃ suf3 : List Int,∃ out_2 : ByteArray,n = suf3.length∧List.drop i_1 list = suf3∧i_1 + suf3.length = list.length∧rangeL i_digits_b1 suf3 i_1 out_2 = some j3∧f 3 = .string out_2∧f 6 = v0∧f 7 = I (list.length : Int)∧f 8 = I i_1∧Star H w_ ([])
 refine W_loop I3 (n:=list.length) ?_ ?_
 exact ij hI3 ⟨0,list,(⟨#[]⟩ : ByteArray),rfl,rfl,Nat.zero_add _,hL3,rfl,rfl,rfl,rfl,Z⟩
 intro n3 f w_ hI
 obtain ⟨i_1,suf3,out_2,rfl,hd3,hl3,hL3,sf3,sf6,sf7,sf8,Z⟩:=ik hI3 hI
 refine sq (L_lss rfl sf8 sf7 (nq (W_cond (b:=decide ((i_1 : Int) < (list.length : Int))) rfl (fun hc4=>?_) (fun hc4=>?_))))
 have hlt3:=of_decide_eq_true hc4
 rcases suf3 with _ | ⟨x_3,rest3⟩
 exact absurd hlt3 (by simp at hl3; omega)
 obtain ⟨o3,hB3,hL3⟩:=range_cons hL3
 rw [i_digits_b1] at hB3
 have hix3:=drop_idx hd3
 refine W_skip (W_seq (W_block (sq (L_ix (r:=RP.int) rfl Tryz.underlying22 Tryz.sizeOf3 sf6 h0 sf8 hix3 (fun g9 o10 cs_g9 hrk_hat11 hat11=>?_)))))
 obtain rfl : _ = [_]:=hrk_hat11
 refine L_ld rfl Tryz.isAgg3 rfl (At.cell (AtH.at hat11 Z.sub) (j:=0) rfl) (aI rfl (nn ?_))
 obtain ⟨x18,hx18,hB3⟩:=bind_some hB3
 obtain ⟨x20,hx20,hB3⟩:=bind_some hB3
 refine W_region (mF sf3 rfl (mI rfl ?_))
 obtain ⟨H21b,l22,s23,z24,k25⟩:=Z.borrow
 refine L_call rfl Tryz.call121 (ops1 rfl) (strconv_Itoa_c (x_:=x_3) s23 hx18) ?_
 rintro _ w26 ⟨rfl,Z⟩
 have Z:=k25 Z c0
 obtain ⟨hx20_l,hx20_e⟩:=cat_some hx20
 refine L_sadd (s:=out_2) (s':=x18) rfl rfl rfl hx20_l ?_
 rw [← hx20_e]
 refine aV (.string x20) rfl (nn (W_region (L_add rfl sf8 rfl (mI rfl (nn ?_)))))
 obtain rfl:=so hB3
 show ∃ m,m < _∧I3 m _ _
 refine ⟨rest3.length,by simp,?_⟩
 exact ij hI3 ⟨i_1 + 1,rest3,x20,rfl,drop_next hd3,by simp at hl3; omega,hL3,rfl,sf6,sf7,(Eq.trans rfl (congrArg (Value.int .i64) (i64_succ (n:=list.length) (by simp at hl3; omega) hlen3))),Z⟩
 rcases suf3 with _ | ⟨_,_⟩
 obtain rfl:=range_nil hL3
 refine W_exit (rj hR3 ⟨out_2,rfl,sf3,Z⟩)
 exact absurd (of_decide_eq_false hc4) (by simp at hl3; omega)
 intro f w_ hR
 obtain ⟨out_2,rfl,sf3,Z⟩:=rk hR3 hR
 refine sq (mF sf3 rfl (aV (.string out_2) rfl (nn (W_ret (retG1 (v1:=.string out_2) Tryz.results80 rfl ?_)))))
 obtain rfl:=so hF
 exact ⟨rfl,Z⟩
theorem i_Rule_text_c {r_ : Rule} {v0_1 : Value} {v0_2 : Value} {v0_4 : Value} {H : FH} {w : World} (Z : Star H w []) (h0_1 : (rS 3 RP.int).rel H [v0_1] r_.vars) (h0_2 : (rS 3 RP.int).rel H [v0_2] r_.coefs) (h0_4 : (rS 22 (rS 3 RP.int)).rel H [v0_4] r_.rows) {r : ByteArray} (hF : i_Rule_text r_ = some r) :
 C Tryz.prog 81 #[.agg #[I r_.kind,v0_1,v0_2,I r_.bound,v0_4]] w fun v w'=>v = .string r∧Star H w' []:=by
 unfold i_Rule_text at hF
 refine C_enter Tryz.func81 rfl Tryz.ntmps81 rfl (sq (L_box (v:=.agg #[I r_.kind,v0_1,v0_2,I r_.bound,v0_4]) (cs:=#[I r_.kind,v0_1,v0_2,I r_.bound,v0_4]) rfl rfl rfl Z (fun g3 w4 Z=>aV (.string (⟨#[]⟩ : ByteArray)) rfl (nq ?_))))
 obtain ⟨x10,hx10,hF⟩:=bind_some hF
 obtain ⟨x13,hx13,hF⟩:=bind_some hF
 refine W_drawS 3 [anyF,isV (Pt g3),isV (I r_.kind)] [box g3 49 #[I r_.kind,v0_1,v0_2,I r_.bound,v0_4]] [.made 0 8 (fun v_=>oF 9 RP.str v_ x10) none] ([]) [([],[0]),([],[]),([],[])] (S:=[(some 0,[8],none)]) Tryz_mix (by kernel_rfl) rfl (by kernel_rfl) (amF_cons (mono_any) (amF_cons (mono_V _) (amF_cons (mono_V _) amF_nil))) Z ?_ (fun f w_ H18 hS18 hE18 hT18 Z=>?_)
 refine opsS_cons ?_ ?_
 intro f w_ H18 X18 hS18 hE18 hP18 Z
 obtain ⟨H26b,l27,s28,z29,k30⟩:=Z.borrow
 refine L_call rfl Tryz.call78 ops0 (i_ruleWords_c s28 hx10) ?_
 rintro r31_0 w31 ⟨_,rfl,Z⟩
 have Z:=k30 Z (co closed_str c0)
 have Z:=Z.get 1 rfl
 exact L_nil ⟨rfl,_,_,rfl,Le.refl _,fun _ _=>trivial,Z⟩
 refine opsS_cons (fun f w_ _ _ s _ _ Z=>fA 0 fa_49_0 ((s 1 rfl).trans rfl) rfl (nO rfl rfl Z)) (opsS_cons (fun f w_ _ _ _ _ p Z=>ldB 0 Z Tryz.isAgg3 (p 1 9 rfl rfl) rfl rfl (nO rfl rfl Z)) (opsS_nil))
 have Z : Star H18 w_ ([box g3 49 #[I r_.kind,v0_1,v0_2,I r_.bound,v0_4],oF 9 RP.str (f 8) x10]):=Z
 obtain ⟨g34,cap_g34,hv35,_,_⟩:=Star.row 1 Z rfl hx13
 refine L_ixO (R:=(OR.frz RP.str)) (tb:=0) 0 rfl Tryz.underlying44 Tryz.sizeOf9 rfl hv35 (by first | rfl | simp) (hT18 2 10 rfl rfl) hx13 ?_
 obtain ⟨cs36,hr36,hat36⟩:=Star.eltF 1 Z rfl hv35 hx13
 obtain rfl : _ = [_]:=hr36
 refine L_ld rfl Tryz.isAgg9 rfl (At.cell hat36 (j:=0) rfl) (aV (.string x13) rfl (nq (sq (fA 0 fa_49_0 ((hS18 1 rfl).trans rfl) rfl (ldB 0 Z Tryz.isAgg3 rfl rfl rfl (L_eql rfl rfl rfl (nn (W_cond (b:=(r_.kind == 1)) rfl (fun hc38=>?_) (fun hc38=>?_)))))))))
 have hF:=(ite_t hc38).symm.trans hF
 refine W_seq (sq (fA 1 fa_49_1 ((hS18 1 rfl).trans rfl) rfl (ldB 0 Z Tryz.isAgg22 rfl rfl rfl (L_len rfl Tryz.underlying22 rfl (slice_len (RP.mono _ h0_1 hE18)) (mI rfl (nn ?_))))))
 have hlen41 : List.length r_.vars≤9223372036854775807:=len_le (slice_len (RP.mono _ h0_1 hE18))
 obtain ⟨j41,hL41,hF⟩:=bind_some hF
 obtain ⟨R41,hR41⟩:=exR fun f w_=>∃ out_40 : ByteArray,j41 = .nx out_40∧f 1 = Pt g3∧f 3 = .string out_40∧Star H18 w_ ([box g3 49 #[I r_.kind,v0_1,v0_2,I r_.bound,v0_4]])
 refine W_join R41 ?_ ?_
 refine W_block ?_
 obtain ⟨I41,hI41⟩:=exI fun n f w_=>∃ i_39 : Nat,∃ suf41 : List Int,∃ out_40 : ByteArray,n = suf41.length∧List.drop i_39 r_.vars = suf41∧i_39 + suf41.length = r_.vars.length∧rangeL (i_Rule_text_b1 r_) suf41 i_39 out_40 = some j41∧f 1 = Pt g3∧f 3 = .string out_40∧f 17 = v0_1∧f 18 = I (r_.vars.length : Int)∧f 19 = I i_39∧Star H18 w_ ([box g3 49 #[I r_.kind,v0_1,v0_2,I r_.bound,v0_4]])
 refine W_loop I41 (n:=r_.vars.length) ?_ ?_
 exact ij hI41 ⟨0,r_.vars,x13,rfl,rfl,Nat.zero_add _,hL41,((hS18 1 rfl).trans rfl),rfl,rfl,rfl,rfl,(Star.keepN 1 Z)⟩
 intro n41 f w_ hI
 obtain ⟨i_39,suf41,out_40,rfl,hd41,hl41,hL41,sf1,sf3,sf17,sf18,sf19,Z⟩:=ik hI41 hI
 refine sq (L_lss rfl sf19 sf18 (nq (W_cond (b:=decide ((i_39 : Int) < (r_.vars.length : Int))) rfl (fun hc42=>?_) (fun hc42=>?_))))
 have hlt41:=of_decide_eq_true hc42
 rcases suf41 with _ | ⟨x_41,rest41⟩
 exact absurd hlt41 (by simp at hl41; omega)
 obtain ⟨o41,hB41,hL41⟩:=range_cons hL41
 rw [i_Rule_text_b1] at hB41
 have hix41:=drop_idx hd41
 refine W_skip (W_seq (W_block (sq (mF sf19 rfl (L_ix (r:=RP.int) rfl Tryz.underlying22 Tryz.sizeOf3 sf17 (RP.mono _ h0_1 hE18) sf19 hix41 (fun g47 o48 cs_g47 hrk_hat49 hat49=>?_))))))
 obtain rfl : _ = [_]:=hrk_hat49
 refine L_ld rfl Tryz.isAgg3 rfl (At.cell (AtH.at hat49 Z.sub) (j:=0) rfl) (aI rfl (aI rfl (nn ?_)))
 obtain ⟨x51,hx51,hB41⟩:=bind_some hB41
 obtain ⟨x61,hx61,hB41⟩:=bind_some hB41
 obtain ⟨x63,hx63,hB41⟩:=bind_some hB41
 obtain ⟨x64,hx64,hB41⟩:=bind_some hB41
 obtain ⟨x70,hx70,hB41⟩:=bind_some hB41
 obtain ⟨x72,hx72,hB41⟩:=bind_some hB41
 obtain ⟨x73,hx73,hB41⟩:=bind_some hB41
 refine W_region (mF sf3 rfl (fA 2 fa_49_2 sf1 rfl (ldB 0 Z Tryz.isAgg22 rfl rfl rfl (mI rfl (L_ix (r:=RP.int) rfl Tryz.underlying22 Tryz.sizeOf3 rfl (RP.mono _ h0_2 hE18) rfl hx51 (fun g74 o75 cs_g74 hrk_hat76 hat76=>?_))))))
 obtain rfl : _ = [_]:=hrk_hat76
 refine L_ld rfl Tryz.isAgg3 rfl (At.cell (AtH.at hat76 Z.sub) (j:=0) rfl) ?_
 obtain ⟨H78b,l79,s80,z81,k82⟩:=Z.borrow
 refine L_call rfl Tryz.call121 (ops1 rfl) (strconv_Itoa_c (x_:=x51) s80 hx61) ?_
 rintro _ w83 ⟨rfl,Z⟩
 have Z:=k82 Z c0
 obtain ⟨hx63_l,hx63_e⟩:=cat_some hx63
 refine L_sadd (s:=(⟨#[32]⟩ : ByteArray)) (s':=x61) rfl rfl rfl hx63_l ?_
 rw [← hx63_e]
 obtain ⟨hx64_l,hx64_e⟩:=cat_some hx64
 refine L_sadd (s:=x63) (s':=(⟨#[32]⟩ : ByteArray)) rfl rfl rfl hx64_l ?_
 rw [← hx64_e]
 refine mI rfl ?_
 obtain ⟨H84b,l85,s86,z87,k88⟩:=Z.borrow
 refine L_call rfl Tryz.call121 (ops1 rfl) (strconv_Itoa_c (x_:=x_41) s86 hx70) ?_
 rintro _ w89 ⟨rfl,Z⟩
 have Z:=k88 Z c0
 obtain ⟨hx72_l,hx72_e⟩:=cat_some hx72
 refine L_sadd (s:=x64) (s':=x70) rfl rfl rfl hx72_l ?_
 rw [← hx72_e]
 obtain ⟨hx73_l,hx73_e⟩:=cat_some hx73
 refine L_sadd (s:=out_40) (s':=x72) rfl rfl rfl hx73_l ?_
 rw [← hx73_e]
 refine aV (.string x73) rfl (nn (W_region (L_add rfl sf19 rfl (mI rfl (nn ?_)))))
 obtain rfl:=so hB41
 show ∃ m,m < _∧I41 m _ _
 refine ⟨rest41.length,by simp,?_⟩
 exact ij hI41 ⟨i_39 + 1,rest41,x73,rfl,drop_next hd41,by simp at hl41; omega,hL41,sf1,rfl,sf17,sf18,(Eq.trans rfl (congrArg (Value.int .i64) (i64_succ (n:=r_.vars.length) (by simp at hl41; omega) hlen41))),Z⟩
 rcases suf41 with _ | ⟨_,_⟩
 obtain rfl:=range_nil hL41
 refine W_exit (rj hR41 ⟨out_40,rfl,sf1,sf3,Z⟩)
 exact absurd (of_decide_eq_false hc42) (by simp at hl41; omega)
 intro f w_ hR
 obtain ⟨out_40,rfl,sf1,sf3,Z⟩:=rk hR41 hR
 refine W_seq ?_
 obtain ⟨x90,hx90,hF⟩:=bind_some hF
 obtain ⟨x96,hx96,hF⟩:=bind_some hF
 obtain ⟨x98,hx98,hF⟩:=bind_some hF
 refine W_region (mF sf3 rfl ?_)
 obtain ⟨hx90_l,hx90_e⟩:=cat_some hx90
 refine L_sadd (s:=out_40) (s':=(⟨#[32,62,61,32]⟩ : ByteArray)) rfl rfl rfl hx90_l ?_
 rw [← hx90_e]
 refine fA 3 fa_49_3 sf1 rfl (ldB 0 Z Tryz.isAgg3 rfl rfl rfl ?_)
 obtain ⟨H99b,l100,s101,z102,k103⟩:=Z.borrow
 refine L_call rfl Tryz.call121 (ops1 rfl) (strconv_Itoa_c (x_:=r_.bound) s101 hx96) ?_
 rintro _ w104 ⟨rfl,Z⟩
 have Z:=k103 Z c0
 obtain ⟨hx98_l,hx98_e⟩:=cat_some hx98
 refine L_sadd (s:=x90) (s':=x96) rfl rfl rfl hx98_l ?_
 rw [← hx98_e]
 refine aV (.string x98) rfl (nn (W_ret (retG1 (v1:=.string x98) Tryz.results81 rfl ?_)))
 obtain rfl:=so hF
 exact ⟨rfl,(Star.down (Star.keepN 0 Z) hE18 c0)⟩
 have hF:=(ite_f hc38).symm.trans hF
 refine W_skip (W_seq ?_)
 obtain ⟨x110,hx110,hF⟩:=bind_some hF
 obtain ⟨x112,hx112,hF⟩:=bind_some hF
 obtain ⟨x113,hx113,hF⟩:=bind_some hF
 refine W_region (mV (.string x13) rfl (fA 1 fa_49_1 ((hS18 1 rfl).trans rfl) rfl (ldB 0 Z Tryz.isAgg22 rfl rfl rfl ?_)))
 obtain ⟨H114b,l115,s116,z117,k118⟩:=Z.borrow
 refine L_call rfl Tryz.call80 (ops1 rfl) (i_digits_c (list:=r_.vars) s116 (RP.mono _ h0_1 (Le.trans hE18 l115)) hx110) ?_
 rintro _ w119 ⟨rfl,Z⟩
 have Z:=k118 Z c0
 obtain ⟨hx112_l,hx112_e⟩:=cat_some hx112
 refine L_sadd (s:=(⟨#[32]⟩ : ByteArray)) (s':=x110) rfl rfl rfl hx112_l ?_
 rw [← hx112_e]
 obtain ⟨hx113_l,hx113_e⟩:=cat_some hx113
 refine L_sadd (s:=x13) (s':=x112) rfl rfl rfl hx113_l ?_
 rw [← hx113_e]
 refine aV (.string x113) rfl (nq (sq (fA 4 fa_49_4 ((hS18 1 rfl).trans rfl) rfl (ldB 0 Z Tryz.isAgg47 rfl rfl rfl (L_len rfl Tryz.underlying47 rfl (slice_len (RP.mono _ h0_4 hE18)) (mI rfl (nn ?_)))))))
 have hlen122 : List.length r_.rows≤9223372036854775807:=len_le (slice_len (RP.mono _ h0_4 hE18))
 obtain ⟨j122,hL122,hF⟩:=bind_some hF
 obtain ⟨R122,hR122⟩:=exR fun f w_=>∃ out_121 : ByteArray,j122 = .nx out_121∧f 3 = .string out_121∧Star H18 w_ ([])
 refine W_join R122 ?_ ?_
 refine W_block ?_
 obtain ⟨I122,hI122⟩:=exI fun n f w_=>∃ i_120 : Nat,∃ suf122 : List (List Int),∃ out_121 : ByteArray,n = suf122.length∧List.drop i_120 r_.rows = suf122∧i_120 + suf122.length = r_.rows.length∧rangeL i_Rule_text_b2 suf122 i_120 out_121 = some j122∧f 3 = .string out_121∧f 51 = v0_4∧f 52 = I (r_.rows.length : Int)∧f 53 = I i_120∧Star H18 w_ ([])
 refine W_loop I122 (n:=r_.rows.length) ?_ ?_
 exact ij hI122 ⟨0,r_.rows,x113,rfl,rfl,Nat.zero_add _,hL122,rfl,rfl,rfl,rfl,(Star.keepN 0 Z)⟩
 intro n122 f w_ hI
 obtain ⟨i_120,suf122,out_121,rfl,hd122,hl122,hL122,sf3,sf51,sf52,sf53,Z⟩:=ik hI122 hI
 refine sq (L_lss rfl sf53 sf52 (nq (W_cond (b:=decide ((i_120 : Int) < (r_.rows.length : Int))) rfl (fun hc123=>?_) (fun hc123=>?_))))
 have hlt122:=of_decide_eq_true hc123
 rcases suf122 with _ | ⟨x_122,rest122⟩
 exact absurd hlt122 (by simp at hl122; omega)
 obtain ⟨o122,hB122,hL122⟩:=range_cons hL122
 rw [i_Rule_text_b2] at hB122
 have hix122:=drop_idx hd122
 refine W_skip (W_seq (W_block (sq (L_ix (r:=(rS 3 RP.int)) rfl Tryz.underlying47 Tryz.sizeOf22 sf51 (RP.mono _ h0_4 hE18) sf53 hix122 (fun g128 o129 cs_g128 hrk_hat130 hat130=>?_)))))
 obtain ⟨u131,rfl,hu131⟩:=slice1 hrk_hat130
 refine L_ld rfl Tryz.isAgg22 rfl (At.cell (AtH.at hat130 Z.sub) (j:=0) rfl) (aV u131 rfl (nn ?_))
 obtain ⟨x137,hx137,hB122⟩:=bind_some hB122
 obtain ⟨x139,hx139,hB122⟩:=bind_some hB122
 obtain ⟨x140,hx140,hB122⟩:=bind_some hB122
 refine W_region (mF sf3 rfl (mV u131 rfl ?_))
 obtain ⟨H141b,l142,s143,z144,k145⟩:=Z.borrow
 refine L_call rfl Tryz.call80 (ops1 rfl) (i_digits_c (list:=x_122) s143 (RP.mono _ hu131 l142) hx137) ?_
 rintro _ w146 ⟨rfl,Z⟩
 have Z:=k145 Z c0
 obtain ⟨hx139_l,hx139_e⟩:=cat_some hx139
 refine L_sadd (s:=(⟨#[32]⟩ : ByteArray)) (s':=x137) rfl rfl rfl hx139_l ?_
 rw [← hx139_e]
 obtain ⟨hx140_l,hx140_e⟩:=cat_some hx140
 refine L_sadd (s:=out_121) (s':=x139) rfl rfl rfl hx140_l ?_
 rw [← hx140_e]
 refine aV (.string x140) rfl (nn (W_region (L_add rfl sf53 rfl (mI rfl (nn ?_)))))
 obtain rfl:=so hB122
 show ∃ m,m < _∧I122 m _ _
 refine ⟨rest122.length,by simp,?_⟩
 exact ij hI122 ⟨i_120 + 1,rest122,x140,rfl,drop_next hd122,by simp at hl122; omega,hL122,rfl,sf51,sf52,(Eq.trans rfl (congrArg (Value.int .i64) (i64_succ (n:=r_.rows.length) (by simp at hl122; omega) hlen122))),Z⟩
 rcases suf122 with _ | ⟨_,_⟩
 obtain rfl:=range_nil hL122
 refine W_exit (rj hR122 ⟨out_121,rfl,sf3,Z⟩)
 exact absurd (of_decide_eq_false hc123) (by simp at hl122; omega)
 intro f w_ hR
 obtain ⟨out_121,rfl,sf3,Z⟩:=rk hR122 hR
 refine sq (mF sf3 rfl (aV (.string out_121) rfl (nn (W_ret (retG1 (v1:=.string out_121) Tryz.results81 rfl ?_)))))
 obtain rfl:=so hF
 exact ⟨rfl,(Star.down Z hE18 c0)⟩
theorem i_formatModel_c {m : Model} {v0_0 : Value} {v0_1 : Value} {H : FH} {w : World} (Z : Star H w []) (h0_0 : (rS 3 RP.int).rel H [v0_0] m.sizes) (h0_1 : (rS 49 (rRule 3 22)).rel H [v0_1] m.rules) {r : ByteArray} (hF : i_formatModel m = some r) :
 C Tryz.prog 36 #[.agg #[v0_0,v0_1]] w fun v w'=>v = .string r∧Star H w' []:=by
 unfold i_formatModel at hF
 refine C_enter Tryz.func36 rfl Tryz.ntmps36 rfl (sq (L_box (v:=.agg #[v0_0,v0_1]) (cs:=#[v0_0,v0_1]) rfl rfl rfl Z (fun g3 w4 Z=>aV (.string (⟨#[]⟩ : ByteArray)) rfl (nq ?_))))
 obtain ⟨x10,hx10,hF⟩:=bind_some hF
 obtain ⟨x12,hx12,hF⟩:=bind_some hF
 obtain ⟨x13,hx13,hF⟩:=bind_some hF
 refine W_region (fA 0 fa_25_0 rfl rfl (ldB 0 Z Tryz.isAgg22 rfl rfl rfl ?_))
 obtain ⟨H14b,l15,s16,z17,k18⟩:=Z.borrow
 refine L_call rfl Tryz.call80 (ops1 rfl) (i_digits_c (list:=m.sizes) s16 (RP.mono _ h0_0 l15) hx10) ?_
 rintro _ w19 ⟨rfl,Z⟩
 have Z:=k18 Z c0
 obtain ⟨hx12_l,hx12_e⟩:=cat_some hx12
 refine L_sadd (s:=(⟨#[115,105,122,101,115,32]⟩ : ByteArray)) (s':=x10) rfl rfl rfl hx12_l ?_
 rw [← hx12_e]
 obtain ⟨hx13_l,hx13_e⟩:=cat_some hx13
 refine L_sadd (s:=x12) (s':=(⟨#[10]⟩ : ByteArray)) rfl rfl rfl hx13_l ?_
 rw [← hx13_e]
 refine aV (.string x13) rfl (nq (sq (fA 1 fa_25_1 rfl rfl (ldB 0 Z Tryz.isAgg23 rfl rfl rfl (L_len rfl Tryz.underlying23 rfl (slice_len h0_1) (mI rfl (nn ?_)))))))
 have hlen22 : List.length m.rules≤9223372036854775807:=len_le (slice_len h0_1)
 obtain ⟨j22,hL22,hF⟩:=bind_some hF
 obtain ⟨R22,hR22⟩:=exR fun f w_=>∃ out_21 : ByteArray,j22 = .nx out_21∧f 3 = .string out_21∧Star H w_ ([])
 refine W_join R22 ?_ ?_
 refine W_block ?_
 obtain ⟨I22,hI22⟩:=exI fun n f w_=>∃ i_20 : Nat,∃ suf22 : List Rule,∃ out_21 : ByteArray,n = suf22.length∧List.drop i_20 m.rules = suf22∧i_20 + suf22.length = m.rules.length∧rangeL i_formatModel_b1 suf22 i_20 out_21 = some j22∧f 3 = .string out_21∧f 12 = v0_1∧f 13 = I (m.rules.length : Int)∧f 14 = I i_20∧Star H w_ ([])
 refine W_loop I22 (n:=m.rules.length) ?_ ?_
 exact ij hI22 ⟨0,m.rules,x13,rfl,rfl,Nat.zero_add _,hL22,rfl,rfl,rfl,rfl,(Star.keepN 0 Z)⟩
 intro n22 f w_ hI
 obtain ⟨i_20,suf22,out_21,rfl,hd22,hl22,hL22,sf3,sf12,sf13,sf14,Z⟩:=ik hI22 hI
 refine sq (L_lss rfl sf14 sf13 (nq (W_cond (b:=decide ((i_20 : Int) < (m.rules.length : Int))) rfl (fun hc23=>?_) (fun hc23=>?_))))
 have hlt22:=of_decide_eq_true hc23
 rcases suf22 with _ | ⟨x_22,rest22⟩
 exact absurd hlt22 (by simp at hl22; omega)
 obtain ⟨o22,hB22,hL22⟩:=range_cons hL22
 rw [i_formatModel_b1] at hB22
 have hix22:=drop_idx hd22
 refine W_skip (W_seq (W_block (sq (L_ix (r:=(rRule 3 22)) rfl Tryz.underlying23 Tryz.sizeOf49 sf12 h0_1 sf14 hix22 (fun g31 o32 cs_g31 hrk_hat33 hat33=>?_)))))
 obtain ⟨u34_0,u34_1,u34_2,rfl,hu34_0,hu34_1,hu34_2⟩:=rRule_iff.1 hrk_hat33
 refine L_lda (cs:=[I x_22.kind,u34_0,u34_1,I x_22.bound,u34_2]) rfl Tryz.isAgg49 Tryz.sizeOf49 rfl (At.sub (AtH.at hat33 Z.sub) 0 5) rfl (L_al (cs:=#[I 0,S0,S0,I 0,S0]) rfl Tryz.zeroValue49 rfl Z (fun g35 w36 Z=>L_staB (vs:=#[I x_22.kind,u34_0,u34_1,I x_22.bound,u34_2]) (cs2:=#[I x_22.kind,u34_0,u34_1,I x_22.bound,u34_2]) 0 rfl Tryz.sizeOf49 rfl rfl rfl (ones_cons rfl (ones_cons (one_len (slice_len hu34_0)) (ones_cons (one_len (slice_len hu34_1)) (ones_cons rfl (ones_cons (one_len (slice_len hu34_2)) ones_nil))))) Z rfl (by show 0 + 5≤5; decide) rfl (fun w37 Z=>nn ?_)))
 obtain ⟨x43,hx43,hB22⟩:=bind_some hB22
 obtain ⟨x45,hx45,hB22⟩:=bind_some hB22
 obtain ⟨x46,hx46,hB22⟩:=bind_some hB22
 refine W_region (mF sf3 rfl (L_lda (cs:=[I x_22.kind,u34_0,u34_1,I x_22.bound,u34_2]) rfl Tryz.isAgg49 Tryz.sizeOf49 rfl (At.sub0 (Blk.at (Star.blkAt 0 Z rfl)) 0 5) rfl ?_))
 obtain ⟨H47b,l48,s49,z50,k51⟩:=Z.borrow
 refine L_call rfl Tryz.call81 (ops1 rfl) (i_Rule_text_c (r_:=x_22) s49 (RP.mono _ hu34_0 l48) (RP.mono _ hu34_1 l48) (RP.mono _ hu34_2 l48) hx43) ?_
 rintro _ w52 ⟨rfl,Z⟩
 have Z:=k51 Z c0
 obtain ⟨hx45_l,hx45_e⟩:=cat_some hx45
 refine L_sadd (s:=x43) (s':=(⟨#[10]⟩ : ByteArray)) rfl rfl rfl hx45_l ?_
 rw [← hx45_e]
 obtain ⟨hx46_l,hx46_e⟩:=cat_some hx46
 refine L_sadd (s:=out_21) (s':=x45) rfl rfl rfl hx46_l ?_
 rw [← hx46_e]
 refine aV (.string x46) rfl (nn (W_region (L_add rfl sf14 rfl (mI rfl (nn ?_)))))
 obtain rfl:=so hB22
 show ∃ m,m < _∧I22 m _ _
 refine ⟨rest22.length,by simp,?_⟩
 exact ij hI22 ⟨i_20 + 1,rest22,x46,rfl,drop_next hd22,by simp at hl22; omega,hL22,rfl,sf12,sf13,(Eq.trans rfl (congrArg (Value.int .i64) (i64_succ (n:=m.rules.length) (by simp at hl22; omega) hlen22))),(Star.keepN 0 Z)⟩
 rcases suf22 with _ | ⟨_,_⟩
 obtain rfl:=range_nil hL22
 refine W_exit (rj hR22 ⟨out_21,rfl,sf3,Z⟩)
 exact absurd (of_decide_eq_false hc23) (by simp at hl22; omega)
 intro f w_ hR
 obtain ⟨out_21,rfl,sf3,Z⟩:=rk hR22 hR
 refine sq (mF sf3 rfl (aV (.string out_21) rfl (nn (W_ret (retG1 (v1:=.string out_21) Tryz.results36 rfl ?_)))))
 obtain rfl:=so hF
 exact ⟨rfl,Z⟩
theorem i_ParseModel_c {fu : Nat} {text : ByteArray} {H : FH} {w : World} (Z : Star H w []) {r : Model × Bool} (hF : i_ParseModel fu text = some r) :
 C Tryz.prog 8 #[.string text] w fun v w'=>∃ (u1 : Value) (u2 : Value),v = .tuple #[.agg #[u1,u2],Bo r.2]∧Star H w' [oF 3 RP.int u1 r.1.sizes,oS 49 (oRule 3 22) u2 r.1.rules]:=by
 unfold i_ParseModel at hF
 refine C_enter Tryz.func8 rfl Tryz.ntmps8 rfl (sq (L_al (cs:=#[S0,S0]) rfl Tryz.zeroValue25 rfl Z (fun g3 w4 Z=>aB rfl (nq ?_))))
 obtain ⟨x5,hx5,hF⟩:=bind_some hF
 refine W_region (mV (.string text) rfl (L_call rfl Tryz.call32 (ops2 rfl rfl) (i_linesOf_c (text:=text) (most:=9) Z hx5) ?_))
 rintro _ w7 ⟨H7,l7,r7_0,rfl,hr7_0,Z⟩
 refine mV (.tuple #[r7_0,Bo x5.2]) rfl (L_ex (v:=r7_0) rfl rfl rfl (L_ex (v:=Bo x5.2) rfl rfl rfl (aV r7_0 rfl (aB rfl (nq (W_seq ?_))))))
 obtain ⟨R8,hR8⟩:=exR fun f w_=>f 0 = .string text∧f 2 = Pt g3∧f 4 = r7_0∧f 21 = Bo ((!x5.2) || ((x5.1.length : Int) == 0))∧Star H7 w_ ([box g3 25 #[S0,S0]])
 refine W_join R8 ?_ ?_
 refine W_region (mB rfl (L_not_ rfl rfl (mB rfl (L_split (d:=17) (b:=(!x5.2)) rfl (fun hc9=>?_) (fun hc9=>?_)))))
 refine ps rfl (ps rfl (ps rfl (L_pick (v:=Bo ((!x5.2) || ((x5.1.length : Int) == 0))) rfl rfl (or_t hc9) (nn (rj hR8 ⟨rfl,rfl,rfl,rfl,Z⟩)))))
 refine mV r7_0 rfl (L_len rfl Tryz.underlying44 rfl (slice_len hr7_0) (L_eql rfl rfl rfl (L_pick (v:=Bo ((!x5.2) || ((x5.1.length : Int) == 0))) rfl rfl (or_f hc9 rfl) (nn (rj hR8 ⟨rfl,rfl,rfl,rfl,Z⟩)))))
 intro f w_ hR
 obtain ⟨sf0,sf2,sf4,sf21,Z⟩:=rk hR8 hR
 refine W_cond (b:=((!x5.2) || ((x5.1.length : Int) == 0))) sf21 (fun hc10=>?_) (fun hc10=>?_)
 have hF:=(ite_t hc10).symm.trans hF
 refine sq (L_bld rfl (parts0 ) (bld_25_  ) (L_staB (vs:=#[S0,S0]) (cs2:=#[S0,S0]) 0 rfl Tryz.sizeOf25 sf2 rfl rfl (ones_cons rfl (ones_cons rfl ones_nil)) Z rfl (by show 0 + 2≤2; decide) rfl (fun w12 Z=>aB rfl (nn (W_ret (retG2 (v1:=.agg #[S0,S0]) (v2:=Bo false) Tryz.results8 (resV_agg Tryz.isAgg25 Tryz.sizeOf25 sf2 (Star.blkAt 0 Z rfl) rfl) rfl ?_))))))
 obtain rfl:=so hF
 have Z:=Star.addNil (R:=(OR.frz RP.int)) (e:=3) Z
 have Z:=Star.addNil (R:=(oRule 3 22)) (e:=49) Z
 have Z:=Z.get 1 rfl
 exact ⟨S0,S0,rfl,(Star.down (Star.keepN 2 Z) l7 (co closed_int (co closed_oRule c0)))⟩
 have hF:=(ite_f hc10).symm.trans hF
 refine W_skip (W_seq ?_)
 obtain ⟨x15,hx15,hF⟩:=bind_some hF
 obtain ⟨x25,hx25,hF⟩:=bind_some hF
 refine W_region (mF sf4 rfl (L_ix (r:=RP.str) rfl Tryz.underlying44 Tryz.sizeOf9 rfl hr7_0 rfl hx15 (fun g27 o28 cs_g27 hrk_hat29 hat29=>?_)))
 obtain rfl : _ = [_]:=hrk_hat29
 refine L_ld rfl Tryz.isAgg9 rfl (At.cell (AtH.at hat29 Z.sub) (j:=0) rfl) ?_
 obtain ⟨H31b,l32,s33,z34,k35⟩:=Z.borrow
 refine L_call rfl Tryz.call33 (ops2 rfl rfl) (strings_CutPrefix_c (x_:=x15) (y_:=(⟨#[115,105,122,101,115,32]⟩ : ByteArray)) s33 hx25) ?_
 rintro _ w36 ⟨rfl,Z⟩
 have Z:=k35 Z c0
 refine mV (.tuple #[.string x25.1,Bo x25.2]) rfl (L_ex (v:=.string x25.1) rfl rfl rfl (L_ex (v:=Bo x25.2) rfl rfl rfl (aV (.string x25.1) rfl (aB rfl (nq (sq (mB rfl (L_not_ rfl rfl (nn (W_cond (b:=(!x25.2)) rfl (fun hc37=>?_) (fun hc37=>?_)))))))))))
 have hF:=(ite_t hc37).symm.trans hF
 refine sq (L_bld rfl (parts0 ) (bld_25_  ) (L_staB (vs:=#[S0,S0]) (cs2:=#[S0,S0]) 0 rfl Tryz.sizeOf25 sf2 rfl rfl (ones_cons rfl (ones_cons rfl ones_nil)) Z rfl (by show 0 + 2≤2; decide) rfl (fun w39 Z=>aB rfl (nn (W_ret (retG2 (v1:=.agg #[S0,S0]) (v2:=Bo false) Tryz.results8 (resV_agg Tryz.isAgg25 Tryz.sizeOf25 sf2 (Star.blkAt 0 Z rfl) rfl) rfl ?_))))))
 obtain rfl:=so hF
 have Z:=Star.addNil (R:=(OR.frz RP.int)) (e:=3) Z
 have Z:=Star.addNil (R:=(oRule 3 22)) (e:=49) Z
 have Z:=Z.get 1 rfl
 exact ⟨S0,S0,rfl,(Star.down (Star.keepN 2 Z) l7 (co closed_int (co closed_oRule c0)))⟩
 have hF:=(ite_f hc37).symm.trans hF
 refine W_skip (W_seq ?_)
 obtain ⟨x47,hx47,hF⟩:=bind_some hF
 refine W_region (mV (.string x25.1) rfl ?_)
 obtain ⟨H53b,l54,s55,z56,k57⟩:=Z.borrow
 refine L_call rfl Tryz.call34 (ops1 rfl) (i_readDigits_c (s:=x25.1) s55 hx47) ?_
 rintro r58_0 w58 ⟨_,rfl,Z⟩
 have Z:=k57 Z (co closed_int c0)
 refine L_bld rfl (parts1 rfl) (bld_25_0 (r58_0) (one_len (Star.len 0 Z rfl))) (L_al (cs:=#[S0,S0]) rfl Tryz.zeroValue25 rfl Z (fun g60 w61 Z=>L_staB (vs:=#[r58_0,S0]) (cs2:=#[r58_0,S0]) 0 rfl Tryz.sizeOf25 rfl rfl rfl (ones_cons (one_len (Star.len 1 Z rfl)) (ones_cons rfl ones_nil)) Z rfl (by show 0 + 2≤2; decide) rfl (fun w62 Z=>nq (W_seq ?_))))
 obtain ⟨x63,hx63,hF⟩:=bind_some hF
 refine W_region (mF sf4 rfl (L_sl (a:=1) (b:=(x5.1.length : Int)) rfl et_44 rfl hr7_0 rfl rfl hx63 (fun v66 hs67=>L_len rfl Tryz.underlying44 rfl (slice_len hs67) (mI rfl (nn ?_)))))
 have hlen73 : List.length x63≤9223372036854775807:=len_le (slice_len hs67)
 obtain ⟨j73,hL73,hF⟩:=bind_some hF
 obtain ⟨R73,hR73⟩:=exR fun f w_=>∃ g60_1_69 : List Rule,∃ H71 : FH,∃ v69_g60_1 : Value,j73 = .nx g60_1_69∧Le H7 H71∧f 0 = .string text∧f 2 = Pt g3∧f 7 = Pt g60∧Star H71 w_ ([oF 3 RP.int r58_0 x47,oS 49 (oRule 3 22) v69_g60_1 g60_1_69,box g60 25 #[r58_0,v69_g60_1],box g3 25 #[S0,S0]])
 refine W_join R73 ?_ ?_
 refine W_block ?_
 obtain ⟨I73,hI73⟩:=exI fun n f w_=>∃ i_68 : Nat,∃ suf73 : List ByteArray,∃ g60_1_69 : List Rule,∃ H71 : FH,∃ v69_g60_1 : Value,n = suf73.length∧List.drop i_68 x63 = suf73∧i_68 + suf73.length = x63.length∧rangeL (i_ParseModel_b1 fu) suf73 i_68 g60_1_69 = some j73∧Le H7 H71∧f 0 = .string text∧f 2 = Pt g3∧f 7 = Pt g60∧f 37 = v66∧f 38 = I (x63.length : Int)∧f 39 = I i_68∧Star H71 w_ ([oF 3 RP.int r58_0 x47,oS 49 (oRule 3 22) v69_g60_1 g60_1_69,box g60 25 #[r58_0,v69_g60_1],box g3 25 #[S0,S0]])
 have Z:=Star.addNil (R:=(oRule 3 22)) (e:=49) Z
 have Z:=Z.gets [3,2,2,3] rfl
 refine W_loop I73 (n:=x63.length) ?_ ?_
 exact ij hI73 ⟨0,x63,[],H7,S0,rfl,rfl,Nat.zero_add _,hL73,(Le.refl _),sf0,sf2,rfl,rfl,rfl,rfl,Z⟩
 intro n73 f w_ hI
 obtain ⟨i_68,suf73,g60_1_69,H71,v69_g60_1,rfl,hd73,hl73,hL73,l72,sf0,sf2,sf7,sf37,sf38,sf39,Z⟩:=ik hI73 hI
 refine sq (L_lss rfl sf39 sf38 (nq (W_cond (b:=decide ((i_68 : Int) < (x63.length : Int))) rfl (fun hc75=>?_) (fun hc75=>?_))))
 have hlt73:=of_decide_eq_true hc75
 rcases suf73 with _ | ⟨x_73,rest73⟩
 exact absurd hlt73 (by simp at hl73; omega)
 obtain ⟨o73,hB73,hL73⟩:=range_cons hL73
 rw [i_ParseModel_b1] at hB73
 have hix73:=drop_idx hd73
 refine W_skip (W_seq (W_block (sq (L_ix (r:=RP.str) rfl Tryz.underlying44 Tryz.sizeOf9 sf37 (RP.mono _ hs67 l72) sf39 hix73 (fun g80 o81 cs_g80 hrk_hat82 hat82=>?_)))))
 obtain rfl : _ = [_]:=hrk_hat82
 refine L_ld rfl Tryz.isAgg9 rfl (At.cell (AtH.at hat82 Z.sub) (j:=0) rfl) (aV (.string x_73) rfl (nn ?_))
 obtain ⟨x89,hx89,hB73⟩:=bind_some hB73
 obtain ⟨x97,hx97,hB73⟩:=bind_some hB73
 refine W_drawS 5 [isV (Pq g60 1),isV (v69_g60_1),isV (.string x_73),exA fun u_1=>exA fun u_2=>exA fun u_4=>isV (.agg #[I x89.kind,u_1,u_2,I x89.bound,u_4]),anyF] [oF 3 RP.int r58_0 x47,oS 49 (oRule 3 22) v69_g60_1 g60_1_69,box g60 25 #[r58_0,v69_g60_1],box g3 25 #[S0,S0]] [.made 3 46 (fun v_=>oF 3 RP.int (aggC v_ 1) x89.vars) (some 4),.made 3 46 (fun v_=>oF 3 RP.int (aggC v_ 2) x89.coefs) (some 4),.made 3 46 (fun v_=>own (OR.ownS 22 (OR.ownS 3 (OR.frz RP.int))) [(aggC v_ 4)] x89.rows) (some 4),.made 4 47 (fun v_=>oS 49 (oRule 3 22) v_ ([x89])) none] ([]) [([],[]),([],[]),([],[]),([],[0,1,2]),([0,1,2],[3])] (S:=[(some 3,[46],some 4),(some 3,[46],some 4),(some 3,[46],some 4),(some 4,[47],none)]) Tryz_mix (by kernel_rfl) rfl (by kernel_rfl) (amF_cons (mono_V _) (amF_cons (mono_V _) (amF_cons (mono_V _) (amF_cons (mono_exA fun _=>mono_exA fun _=>mono_exA fun _=>mono_V _) (amF_cons (mono_any) amF_nil))))) Z ?_ (fun f w_ H102 hS102 hE102 hT102 Z=>?_)
 refine opsS_cons (fun f w_ _ _ s _ _ Z=>fA 1 fa_25_1 ((s 7 rfl).trans sf7) rfl (nO rfl rfl Z)) (opsS_cons (fun f w_ _ _ _ _ p Z=>ldB 2 Z Tryz.isAgg23 (p 0 43 rfl rfl) rfl rfl (nO rfl rfl Z)) (opsS_cons (fun f w_ _ _ s _ _ Z=>mF ((s 9 rfl).trans rfl) rfl (nO rfl rfl Z)) (opsS_cons ?_ ?_)))
 intro f w_ H102 X102 hS102 hE102 hP102 Z
 obtain ⟨H115b,l116,s117,z118,k119⟩:=Z.borrow
 refine L_call rfl Tryz.call35 (ops1 (hP102 2 45 rfl rfl)) (i_readRule_c (line:=x_73) s117 hx89) ?_
 rintro _ w120 ⟨r120_0,r120_1,r120_2,rfl,Z⟩
 have Z:=k119 Z (co closed_int (co closed_int (cc (closed_own (OR.closed_ownS (OR.closed_ownS closed_int)) _ _) c0)))
 have Z:=Z.gets [2,2,2,6,6,6,6] rfl
 exact L_nil ⟨rfl,_,_,rfl,Le.refl _,fun _ _=>⟨_,_,_,rfl⟩,Z⟩
 refine opsS_cons ?_ ?_
 intro f w_ H102 X102 hS102 hE102 hP102 Z
 have Z : Star H102 w_ (oF 3 RP.int r58_0 x47 :: oS 49 (oRule 3 22) v69_g60_1 g60_1_69 :: box g60 25 #[r58_0,v69_g60_1] :: box g3 25 #[S0,S0] :: own (OR.ownS 3 (OR.frz RP.int)) [(aggC (f 46) 1)] x89.vars :: own (OR.ownS 3 (OR.frz RP.int)) [(aggC (f 46) 2)] x89.coefs :: own (OR.ownS 22 (OR.ownS 3 (OR.frz RP.int))) [(aggC (f 46) 4)] x89.rows :: X102):=Z
 obtain ⟨u124_1,u124_2,u124_4,hv124⟩:=(hP102 3 46 rfl rfl)
 have hren : Star H102 w_ (oF 3 RP.int r58_0 x47 :: oS 49 (oRule 3 22) v69_g60_1 g60_1_69 :: box g60 25 #[r58_0,v69_g60_1] :: box g3 25 #[S0,S0] :: own (OR.ownS 3 (OR.frz RP.int)) [(aggC (f 46) 1)] x89.vars :: own (OR.ownS 3 (OR.frz RP.int)) [(aggC (f 46) 2)] x89.coefs :: own (OR.ownS 22 (OR.ownS 3 (OR.frz RP.int))) [(aggC (f 46) 4)] x89.rows :: X102):=Z
 rw [hv124] at hren
 have Z : Star H102 w_ (oF 3 RP.int r58_0 x47 :: oS 49 (oRule 3 22) v69_g60_1 g60_1_69 :: box g60 25 #[r58_0,v69_g60_1] :: box g3 25 #[S0,S0] :: oF 3 RP.int u124_1 x89.vars :: oF 3 RP.int u124_2 x89.coefs :: own (OR.ownS 22 (OR.ownS 3 (OR.frz RP.int))) [u124_4] x89.rows :: X102):=hren
 refine L_bs rfl (parts1 hv124) (bs_23_1_5 (I x89.kind) (u124_1) (u124_2) (I x89.bound) (u124_4) ) Z (fun g125 w126 Z=>?_)
 have Z:=Z.gets [7,7,7] rfl
 have Z:=oRule_close (r:=x89) Z
 have Z:=Star.mkRow (R:=(oRule 3 22)) [([I x89.kind,u124_1,u124_2,I x89.bound,u124_4],x89)] [x89] 1 Z rfl rfl rfl (by decide)
 have Z:=Z.gets [4,4,4,4] rfl
 exact L_nil ⟨rfl,_,_,rfl,Le.refl _,fun _ _=>trivial,Z⟩
 exact opsS_nil
 have Z : Star H102 w_ ([oF 3 RP.int r58_0 x47,oS 49 (oRule 3 22) v69_g60_1 g60_1_69,box g60 25 #[r58_0,v69_g60_1],box g3 25 #[S0,S0],oS 49 (oRule 3 22) (f 47) ([x89])]):=Z
 have Z:=Z.gets [4,2] rfl
 refine L_appM (v:=v69_g60_1) (u:=(f 47)) rfl et_23 (hT102 1 44 rfl rfl) rfl Z hx97 (fun v129 w130 Z=>fA 1 fa_25_1 ((hS102 7 rfl).trans sf7) rfl (L_stB (v:=v129) (cs2:=#[r58_0,v129]) 2 rfl Tryz.sizeOf23 rfl rfl (one_len (Star.len 0 Z rfl)) Z rfl rfl rfl (fun w132 Z=>nn (W_region (L_add rfl ((hS102 39 rfl).trans sf39) rfl (mI rfl (nn ?_)))))))
 obtain rfl:=so hB73
 have Z:=Z.gets [3,1,2,3] rfl
 show ∃ m,m < _∧I73 m _ _
 refine ⟨rest73.length,by simp,?_⟩
 exact ij hI73 ⟨i_68 + 1,rest73,x97,H102,v129,rfl,drop_next hd73,by simp at hl73; omega,hL73,(Le.trans l72 hE102),((hS102 0 rfl).trans sf0),((hS102 2 rfl).trans sf2),((hS102 7 rfl).trans sf7),((hS102 37 rfl).trans sf37),((hS102 38 rfl).trans sf38),(Eq.trans rfl (congrArg (Value.int .i64) (i64_succ (n:=x63.length) (by simp at hl73; omega) hlen73))),Z⟩
 rcases suf73 with _ | ⟨_,_⟩
 obtain rfl:=range_nil hL73
 refine W_exit (rj hR73 ⟨g60_1_69,H71,v69_g60_1,rfl,l72,sf0,sf2,sf7,Z⟩)
 exact absurd (of_decide_eq_false hc75) (by simp at hl73; omega)
 intro f w_ hR
 obtain ⟨g60_1_69,H71,v69_g60_1,rfl,l72,sf0,sf2,sf7,Z⟩:=rk hR73 hR
 refine W_seq (W_seq ?_)
 obtain ⟨x140,hx140,hF⟩:=bind_some hF
 obtain ⟨b151,hb151,hF⟩:=bind_some hF
 obtain ⟨R152,hR152⟩:=exR fun f w_=>f 2 = Pt g3∧f 7 = Pt g60∧f 59 = Bo b151∧Star H71 w_ ([oF 3 RP.int r58_0 x47,oS 49 (oRule 3 22) v69_g60_1 g60_1_69,box g60 25 #[r58_0,v69_g60_1],box g3 25 #[S0,S0]])
 refine W_join R152 ?_ ?_
 refine W_region (L_lda (cs:=[r58_0,v69_g60_1]) rfl Tryz.isAgg25 Tryz.sizeOf25 sf7 (At.sub0 (Blk.at (Star.blkAt 2 Z rfl)) 0 2) rfl ?_)
 obtain ⟨H153b,l154,s155,z156,k157⟩:=Z.borrow
 have hb158 : (rS 3 RP.int).rel H153b [r58_0] x47:=fz_own 0 z156 rfl
 have hb159 : (rS 49 (rRule 3 22)).rel H153b [v69_g60_1] g60_1_69:=fz_own 1 z156 rfl
 refine L_call rfl Tryz.call15 (ops1 rfl) (i_ModelValid_c (m:=({ sizes:=x47,rules:=g60_1_69 } : Model)) s155 hb158 hb159 hx140) ?_
 rintro _ w160 ⟨rfl,Z⟩
 have Z:=k157 Z c0
 refine L_not_ rfl rfl (mB rfl (L_split (d:=54) (b:=(!x140)) rfl (fun hc161=>?_) (fun hc161=>?_)))
 rw [ite_t hc161] at hb151
 refine ps rfl (ps rfl (ps rfl (ps rfl (L_pick (v:=Bo b151) rfl rfl (congrArg Value.bool (so hb151)) (nn (rj hR152 ⟨sf2,sf7,rfl,Z⟩))))))
 rw [ite_f hc161] at hb151
 obtain ⟨x149,hx149,hb151⟩:=bind_some hb151
 refine L_lda (cs:=[r58_0,v69_g60_1]) rfl Tryz.isAgg25 Tryz.sizeOf25 sf7 (At.sub0 (Blk.at (Star.blkAt 2 Z rfl)) 0 2) rfl ?_
 obtain ⟨H162b,l163,s164,z165,k166⟩:=Z.borrow
 have hb167 : (rS 3 RP.int).rel H162b [r58_0] x47:=fz_own 0 z165 rfl
 have hb168 : (rS 49 (rRule 3 22)).rel H162b [v69_g60_1] g60_1_69:=fz_own 1 z165 rfl
 refine L_call rfl Tryz.call36 (ops1 rfl) (i_formatModel_c (m:=({ sizes:=x47,rules:=g60_1_69 } : Model)) s164 hb167 hb168 hx149) ?_
 rintro _ w169 ⟨rfl,Z⟩
 have Z:=k166 Z c0
 refine mF sf0 rfl (L_sneq (s:=x149) (s':=text) rfl rfl rfl (L_pick (v:=Bo b151) rfl rfl (congrArg Value.bool (so hb151)) (nn (rj hR152 ⟨sf2,sf7,rfl,Z⟩))))
 intro f w_ hR
 obtain ⟨sf2,sf7,sf59,Z⟩:=rk hR152 hR
 refine W_cond (b:=b151) sf59 (fun hc170=>?_) (fun hc170=>?_)
 have hF:=(ite_t hc170).symm.trans hF
 refine sq (L_bld rfl (parts0 ) (bld_25_  ) (L_staB (vs:=#[S0,S0]) (cs2:=#[S0,S0]) 3 rfl Tryz.sizeOf25 sf2 rfl rfl (ones_cons rfl (ones_cons rfl ones_nil)) Z rfl (by show 0 + 2≤2; decide) rfl (fun w172 Z=>aB rfl (nn (W_ret (retG2 (v1:=.agg #[S0,S0]) (v2:=Bo false) Tryz.results8 (resV_agg Tryz.isAgg25 Tryz.sizeOf25 sf2 (Star.blkAt 0 Z rfl) rfl) rfl ?_))))))
 obtain rfl:=so hF
 have Z:=Star.addNil (R:=(OR.frz RP.int)) (e:=3) Z
 have Z:=Star.addNil (R:=(oRule 3 22)) (e:=49) Z
 have Z:=Z.get 1 rfl
 exact ⟨S0,S0,rfl,(Star.down (Star.keepN 2 Z) (Le.trans l7 l72) (co closed_int (co closed_oRule c0)))⟩
 have hF:=(ite_f hc170).symm.trans hF
 refine W_skip (sq (L_lda (cs:=[r58_0,v69_g60_1]) rfl Tryz.isAgg25 Tryz.sizeOf25 sf7 (At.sub0 (Blk.at (Star.blkAt 2 Z rfl)) 0 2) rfl (L_staB (vs:=#[r58_0,v69_g60_1]) (cs2:=#[r58_0,v69_g60_1]) 3 rfl Tryz.sizeOf25 sf2 rfl rfl (ones_cons (one_len (Star.len 0 Z rfl)) (ones_cons (one_len (Star.len 1 Z rfl)) ones_nil)) Z rfl (by show 0 + 2≤2; decide) rfl (fun w176 Z=>aB rfl (nn (W_ret (retG2 (v1:=.agg #[r58_0,v69_g60_1]) (v2:=Bo true) Tryz.results8 (resV_agg Tryz.isAgg25 Tryz.sizeOf25 sf2 (Star.blkAt 0 Z rfl) rfl) rfl ?_)))))))
 obtain rfl:=so hF
 have Z:=Z.gets [2,2] rfl
 exact ⟨r58_0,v69_g60_1,rfl,(Star.down (Star.keepN 2 Z) (Le.trans l7 l72) (co closed_int (co closed_oRule c0)))⟩
theorem s_l17Open_c {code : List UInt8} {v0 : Value} {H : FH} {w : World} {R : List Ass} (Z : Star H w R) (h0 : (rS 5 RP.u8).rel H [v0] code) {r : Rd} (hF : s_l17Open code = some r) :
 C Tryz.prog 54 #[v0] w fun v w'=>∃ H' : FH,Le H H'∧∃ (u1 : Nat) (u2 : Value),v = Pt u1∧(rS 5 RP.u8).rel H' [u2] r.b∧Star H' w' (box u1 117 #[u2,I r.p] :: R):=by
 unfold s_l17Open at hF
 refine C_enter Tryz.func54 rfl Tryz.ntmps54 rfl (sq (aV (.pointer none) rfl (nq (sq (mV v0 rfl (L_len rfl Tryz.underlying31 rfl (slice_len h0) (L_gtr rfl rfl rfl (nn ?_))))))))
 obtain ⟨code_1,hA3,hF⟩:=bind_some hF
 obtain ⟨R3,hR3⟩:=exR fun f w_=>∃ v1_code : Value,f 0 = v1_code∧(rS 5 RP.u8).rel H [v1_code] code_1∧Star H w_ (R)
 refine W_join R3 ?_ ?_
 refine W_cond (b:=decide ((code.length : Int) > 2000)) rfl (fun hc4=>?_) (fun hc4=>?_)
 have hA3:=(ite_t hc4).symm.trans hA3
 obtain ⟨x5,hx5,hA3⟩:=bind_some hA3
 refine W_region (mV v0 rfl (L_sl (a:=0) (b:=2000) rfl et_31 rfl h0 rfl rfl hx5 (fun v8 hs9=>aV v8 rfl (nn ?_))))
 obtain rfl:=so hA3
 exact rj hR3 ⟨v8,rfl,hs9,Z⟩
 have hA3:=(ite_f hc4).symm.trans hA3
 refine W_skip ?_
 obtain rfl:=so hA3
 exact rj hR3 ⟨v0,rfl,h0,Z⟩
 intro f w_ hR
 obtain ⟨v1_code,sf0,hv2_code,Z⟩:=rk hR3 hR
 refine sq (mF sf0 rfl (L_bld rfl (parts1 rfl) (bld_117_0 (v1_code) (one_len (slice_len hv2_code))) (L_box (v:=.agg #[v1_code,I 0]) (cs:=#[v1_code,I 0]) rfl rfl rfl Z (fun g12 w13 Z=>aV (Pt g12) rfl (nn (W_ret (retG1 (v1:=Pt g12) Tryz.results54 rfl ?_)))))))
 obtain rfl:=so hF
 exact ⟨H,(Le.refl _),g12,v1_code,rfl,hv2_code,Z⟩
theorem s_l17Rd_pick_c {r_ : Rd} {n_ : Int} {g_0 : Nat} {v0_0 : Value} {H : FH} {w : World} (Z : Star H w [box g_0 117 #[v0_0,I r_.p]]) (h0_0 : (rS 5 RP.u8).rel H [v0_0] r_.b) {r : Int × Int} (hF : s_l17Rd_pick r_ n_ = some r) :
 C Tryz.prog 63 #[Pt g_0,I n_] w fun v w'=>v = I r.1∧Star H w' [box g_0 117 #[v0_0,I r.2]]:=by
 unfold s_l17Rd_pick at hF
 refine C_enter Tryz.func63 rfl Tryz.ntmps63 rfl (sq (aI rfl (ns (mV (Pt g_0) rfl (mV (Pt g_0) rfl (L_nc rfl rfl (fA 1 fa_117_1 rfl rfl (ldB 0 Z Tryz.isAgg3 rfl rfl rfl (L_add rfl rfl rfl (L_nc rfl rfl (fA 1 fa_117_1 rfl rfl (L_stB (v:=I (i64 (r_.p + 1))) (cs2:=#[v0_0,I (i64 (r_.p + 1))]) 0 rfl Tryz.sizeOf3 rfl rfl rfl Z rfl rfl rfl (fun w2 Z=>nq (W_seq ?_))))))))))))))
 obtain ⟨R3,hR3⟩:=exR fun f w_=>f 0 = Pt g_0∧f 1 = I n_∧f 24 = Bo ((decide (n_ < 1)) || ((r_.b.length : Int) == 0))∧Star H w_ ([box g_0 117 #[v0_0,I (i64 (r_.p + 1))]])
 refine W_join R3 ?_ ?_
 refine W_region (mI rfl (L_lss rfl rfl rfl (mB rfl (L_split (d:=17) (b:=decide (n_ < 1)) rfl (fun hc4=>?_) (fun hc4=>?_)))))
 refine ps rfl (ps rfl (ps rfl (ps rfl (ps rfl (ps rfl (L_pick (v:=Bo ((decide (n_ < 1)) || ((r_.b.length : Int) == 0))) rfl rfl (or_t hc4) (nn (rj hR3 ⟨rfl,rfl,rfl,Z⟩))))))))
 refine mV (Pt g_0) rfl (L_nc rfl rfl (fA 0 fa_117_0 rfl rfl (ldB 0 Z Tryz.isAgg31 rfl rfl rfl (L_len rfl Tryz.underlying31 rfl (slice_len h0_0) (L_eql rfl rfl rfl (L_pick (v:=Bo ((decide (n_ < 1)) || ((r_.b.length : Int) == 0))) rfl rfl (or_f hc4 rfl) (nn (rj hR3 ⟨rfl,rfl,rfl,Z⟩))))))))
 intro f w_ hR
 obtain ⟨sf0,sf1,sf24,Z⟩:=rk hR3 hR
 refine W_cond (b:=((decide (n_ < 1)) || ((r_.b.length : Int) == 0))) sf24 (fun hc5=>?_) (fun hc5=>?_)
 have hF:=(ite_t hc5).symm.trans hF
 refine sq (aI rfl (nn (W_ret (retG1 (v1:=I 0) Tryz.results63 rfl ?_))))
 obtain rfl:=so hF
 exact ⟨rfl,Z⟩
 have hF:=(ite_f hc5).symm.trans hF
 refine W_skip (sq (mF sf0 rfl (L_nc rfl rfl (fA 1 fa_117_1 rfl rfl (ldB 0 Z Tryz.isAgg3 rfl rfl rfl (L_sub rfl rfl rfl (aI rfl (nq (sq (mI rfl (mF sf0 rfl (L_nc rfl rfl (fA 0 fa_117_0 rfl rfl (ldB 0 Z Tryz.isAgg31 rfl rfl rfl (L_len rfl Tryz.underlying31 rfl (slice_len h0_0) (L_lss rfl rfl rfl (nn (W_cond (b:=decide ((i64 ((i64 (r_.p + 1)) - 1)) < (r_.b.length : Int))) rfl (fun hc6=>?_) (fun hc6=>?_)))))))))))))))))))
 have hF:=(ite_t hc6).symm.trans hF
 refine W_seq ?_
 obtain ⟨x7,hx7,hF⟩:=bind_some hF
 obtain ⟨q12,hq12,hF⟩:=bind_some hF
 refine W_region (mF sf0 rfl (L_nc rfl rfl (fA 0 fa_117_0 rfl rfl (ldB 0 Z Tryz.isAgg31 rfl rfl rfl (mI rfl (L_ix (r:=RP.u8) rfl Tryz.underlying31 Tryz.sizeOf5 rfl h0_0 rfl hx7 (fun g13 o14 cs_g13 hrk_hat15 hat15=>?_)))))))
 obtain rfl : _ = [_]:=hrk_hat15
 refine L_ld rfl Tryz.isAgg5 rfl (At.cell (AtH.at hat15 Z.sub) (j:=0) rfl) (L_cv (n:=(x7.toNat : Int)) rfl rfl ⟨_,Tryz.underlying5⟩ Tryz.underlying3 (mF sf1 rfl (L_rem (m:=i64 (x7.toNat : Int)) (n:=n_) rfl rfl rfl (fun he=>by rw [if_pos he] at hq12; cases hq12) (aI rfl (nn (W_ret (retG1 (v1:=I (Int.tmod (i64 (x7.toNat : Int)) n_)) Tryz.results63 rfl ?_)))))))
 obtain rfl:=so hF
 exact ⟨rfl,Z⟩
 have hF:=(ite_f hc6).symm.trans hF
 refine W_skip (W_seq ?_)
 obtain ⟨q17,hq17,hF⟩:=bind_some hF
 obtain ⟨x18,hx18,hF⟩:=bind_some hF
 obtain ⟨q23,hq23,hF⟩:=bind_some hF
 obtain ⟨x24,hx24,hF⟩:=bind_some hF
 obtain ⟨q29,hq29,hF⟩:=bind_some hF
 refine W_drawS 44 [isV (Pt g_0),isV (Pt g_0),isV (Pt g_0),isV (v0_0),isV (I (i64 ((i64 (r_.p + 1)) - 1))),isV (Pt g_0),isV (Pt g_0),isV (Pt g_0),isV (v0_0),isV (I (r_.b.length : Int)),isV (I (Int.tmod (i64 ((i64 (r_.p + 1)) - 1)) (r_.b.length : Int))),isEl RP.u8 x18 0,isV (.int .u8 (x18.toNat : Int)),isV (I (i64 (x18.toNat : Int))),isV (I (i64 ((i64 (x18.toNat : Int)) * 131))),isV (Pt g_0),isV (Pt g_0),isV (Pt g_0),isV (v0_0),isV (I (i64 ((i64 (r_.p + 1)) - 1))),isV (I (i64 ((i64 ((i64 (r_.p + 1)) - 1)) * 7))),isV (I (i64 ((i64 ((i64 ((i64 (r_.p + 1)) - 1)) * 7)) + 3))),isV (Pt g_0),isV (Pt g_0),isV (Pt g_0),isV (v0_0),isV (I (r_.b.length : Int)),isV (I (Int.tmod (i64 ((i64 ((i64 ((i64 (r_.p + 1)) - 1)) * 7)) + 3)) (r_.b.length : Int))),isEl RP.u8 x24 0,isV (.int .u8 (x24.toNat : Int)),isV (I (i64 (x24.toNat : Int))),isV (I (i64 ((i64 (x24.toNat : Int)) * 1117))),isV (I (i64 ((i64 ((i64 (x18.toNat : Int)) * 131)) + (i64 ((i64 (x24.toNat : Int)) * 1117))))),isV (I (i64 ((i64 (r_.p + 1)) - 1))),isV (I (i64 ((i64 ((i64 (r_.p + 1)) - 1)) * 29))),isV (I (i64 ((i64 ((i64 ((i64 (x18.toNat : Int)) * 131)) + (i64 ((i64 (x24.toNat : Int)) * 1117)))) + (i64 ((i64 ((i64 (r_.p + 1)) - 1)) * 29))))),isV (I (i64 ((i64 (r_.p + 1)) - 1))),isV (Pt g_0),isV (Pt g_0),isV (Pt g_0),isV (v0_0),isV (I (r_.b.length : Int)),isV (I (i64 (Int.tdiv (i64 ((i64 (r_.p + 1)) - 1)) (r_.b.length : Int)))),isV (I (i64 ((i64 (Int.tdiv (i64 ((i64 (r_.p + 1)) - 1)) (r_.b.length : Int))) * 53)))] [box g_0 117 #[v0_0,I (i64 (r_.p + 1))]] [] ([]) [([],[]),([],[]),([],[]),([],[]),([],[]),([],[]),([],[]),([],[]),([],[]),([],[]),([],[]),([],[]),([],[]),([],[]),([],[]),([],[]),([],[]),([],[]),([],[]),([],[]),([],[]),([],[]),([],[]),([],[]),([],[]),([],[]),([],[]),([],[]),([],[]),([],[]),([],[]),([],[]),([],[]),([],[]),([],[]),([],[]),([],[]),([],[]),([],[]),([],[]),([],[]),([],[]),([],[]),([],[])] (S:=[]) Tryz_mix (by kernel_rfl) rfl (by kernel_rfl) (amF_cons (mono_V _) (amF_cons (mono_V _) (amF_cons (mono_V _) (amF_cons (mono_V _) (amF_cons (mono_V _) (amF_cons (mono_V _) (amF_cons (mono_V _) (amF_cons (mono_V _) (amF_cons (mono_V _) (amF_cons (mono_V _) (amF_cons (mono_V _) (amF_cons (mono_el _ _ _) (amF_cons (mono_V _) (amF_cons (mono_V _) (amF_cons (mono_V _) (amF_cons (mono_V _) (amF_cons (mono_V _) (amF_cons (mono_V _) (amF_cons (mono_V _) (amF_cons (mono_V _) (amF_cons (mono_V _) (amF_cons (mono_V _) (amF_cons (mono_V _) (amF_cons (mono_V _) (amF_cons (mono_V _) (amF_cons (mono_V _) (amF_cons (mono_V _) (amF_cons (mono_V _) (amF_cons (mono_el _ _ _) (amF_cons (mono_V _) (amF_cons (mono_V _) (amF_cons (mono_V _) (amF_cons (mono_V _) (amF_cons (mono_V _) (amF_cons (mono_V _) (amF_cons (mono_V _) (amF_cons (mono_V _) (amF_cons (mono_V _) (amF_cons (mono_V _) (amF_cons (mono_V _) (amF_cons (mono_V _) (amF_cons (mono_V _) (amF_cons (mono_V _) (amF_cons (mono_V _) amF_nil)))))))))))))))))))))))))))))))))))))))))))) Z ?_ (fun f w_ H30 hS30 hE30 hT30 Z=>?_)
 refine opsS_cons (fun f w_ _ _ s _ _ Z=>mF ((s 0 rfl).trans sf0) rfl (nO rfl rfl Z)) (opsS_cons (fun f w_ _ _ _ _ p Z=>L_nc rfl (p 0 47 rfl rfl) (nO rfl rfl Z)) (opsS_cons (fun f w_ _ _ _ _ p Z=>fA 0 fa_117_0 (p 1 48 rfl rfl) rfl (nO rfl rfl Z)) (opsS_cons (fun f w_ _ _ _ _ p Z=>ldB 0 Z Tryz.isAgg31 (p 2 49 rfl rfl) rfl rfl (nO rfl rfl Z)) (opsS_cons (fun f w_ _ _ s _ _ Z=>mF ((s 5 rfl).trans rfl) rfl (nO rfl rfl Z)) (opsS_cons (fun f w_ _ _ s _ _ Z=>mF ((s 0 rfl).trans sf0) rfl (nO rfl rfl Z)) (opsS_cons (fun f w_ _ _ _ _ p Z=>L_nc rfl (p 5 52 rfl rfl) (nO rfl rfl Z)) (opsS_cons (fun f w_ _ _ _ _ p Z=>fA 0 fa_117_0 (p 6 53 rfl rfl) rfl (nO rfl rfl Z)) (opsS_cons (fun f w_ _ _ _ _ p Z=>ldB 0 Z Tryz.isAgg31 (p 7 54 rfl rfl) rfl rfl (nO rfl rfl Z)) (opsS_cons (fun f w_ _ _ _ hE30 p Z=>L_len rfl Tryz.underlying31 (p 8 55 rfl rfl) (slice_len (RP.mono _ h0_0 hE30)) (nO rfl rfl Z)) (opsS_cons (fun f w_ _ _ _ _ p Z=>L_rem (m:=i64 ((i64 (r_.p + 1)) - 1)) (n:=(r_.b.length : Int)) rfl (p 4 51 rfl rfl) (p 9 56 rfl rfl) (fun he=>by rw [if_pos he] at hq17; cases hq17) (nO rfl rfl Z)) (opsS_cons ?_ ?_)))))))))))
 intro f w_ H30 X30 hS30 hE30 hP30 Z
 refine L_ix (r:=RP.u8) rfl Tryz.underlying31 Tryz.sizeOf5 (hP30 3 50 rfl rfl) (RP.mono _ h0_0 hE30) (hP30 10 57 rfl rfl) hx18 (fun g39 o40 cs_g39 hrk_hat41 hat41=>?_)
 obtain rfl : _ = [_]:=hrk_hat41
 exact L_nil ⟨rfl,_,_,rfl,Le.refl _,fun _ _=>⟨_,_,_,rfl,rfl,hat41⟩,Z⟩
 refine opsS_cons ?_ ?_
 intro f w_ H30 X30 hS30 hE30 hP30 Z
 obtain ⟨g43,o43,cs43,hv43,hrk_hat43,hat43⟩:=(hP30 11 58 rfl rfl)
 obtain rfl : _ = [_]:=hrk_hat43
 refine L_ld rfl Tryz.isAgg5 hv43 (At.cell (AtH.at hat43 Z.sub) (j:=0) rfl) (L_nil ⟨rfl,_,_,rfl,Le.refl _,fun _ _=>rfl,Z⟩)
 refine opsS_cons (fun f w_ _ _ _ _ p Z=>L_cv (n:=(x18.toNat : Int)) rfl (p 12 59 rfl rfl) ⟨_,Tryz.underlying5⟩ Tryz.underlying3 (nO rfl rfl Z)) (opsS_cons (fun f w_ _ _ _ _ p Z=>L_mul rfl (p 13 60 rfl rfl) rfl (nO rfl rfl Z)) (opsS_cons (fun f w_ _ _ s _ _ Z=>mF ((s 0 rfl).trans sf0) rfl (nO rfl rfl Z)) (opsS_cons (fun f w_ _ _ _ _ p Z=>L_nc rfl (p 15 62 rfl rfl) (nO rfl rfl Z)) (opsS_cons (fun f w_ _ _ _ _ p Z=>fA 0 fa_117_0 (p 16 63 rfl rfl) rfl (nO rfl rfl Z)) (opsS_cons (fun f w_ _ _ _ _ p Z=>ldB 0 Z Tryz.isAgg31 (p 17 64 rfl rfl) rfl rfl (nO rfl rfl Z)) (opsS_cons (fun f w_ _ _ s _ _ Z=>mF ((s 5 rfl).trans rfl) rfl (nO rfl rfl Z)) (opsS_cons (fun f w_ _ _ _ _ p Z=>L_mul rfl (p 19 66 rfl rfl) rfl (nO rfl rfl Z)) (opsS_cons (fun f w_ _ _ _ _ p Z=>L_add rfl (p 20 67 rfl rfl) rfl (nO rfl rfl Z)) (opsS_cons (fun f w_ _ _ s _ _ Z=>mF ((s 0 rfl).trans sf0) rfl (nO rfl rfl Z)) (opsS_cons (fun f w_ _ _ _ _ p Z=>L_nc rfl (p 22 69 rfl rfl) (nO rfl rfl Z)) (opsS_cons (fun f w_ _ _ _ _ p Z=>fA 0 fa_117_0 (p 23 70 rfl rfl) rfl (nO rfl rfl Z)) (opsS_cons (fun f w_ _ _ _ _ p Z=>ldB 0 Z Tryz.isAgg31 (p 24 71 rfl rfl) rfl rfl (nO rfl rfl Z)) (opsS_cons (fun f w_ _ _ _ hE30 p Z=>L_len rfl Tryz.underlying31 (p 25 72 rfl rfl) (slice_len (RP.mono _ h0_0 hE30)) (nO rfl rfl Z)) (opsS_cons (fun f w_ _ _ _ _ p Z=>L_rem (m:=i64 ((i64 ((i64 ((i64 (r_.p + 1)) - 1)) * 7)) + 3)) (n:=(r_.b.length : Int)) rfl (p 21 68 rfl rfl) (p 26 73 rfl rfl) (fun he=>by rw [if_pos he] at hq23; cases hq23) (nO rfl rfl Z)) (opsS_cons ?_ ?_)))))))))))))))
 intro f w_ H30 X30 hS30 hE30 hP30 Z
 refine L_ix (r:=RP.u8) rfl Tryz.underlying31 Tryz.sizeOf5 (hP30 18 65 rfl rfl) (RP.mono _ h0_0 hE30) (hP30 27 74 rfl rfl) hx24 (fun g45 o46 cs_g45 hrk_hat47 hat47=>?_)
 obtain rfl : _ = [_]:=hrk_hat47
 exact L_nil ⟨rfl,_,_,rfl,Le.refl _,fun _ _=>⟨_,_,_,rfl,rfl,hat47⟩,Z⟩
 refine opsS_cons ?_ ?_
 intro f w_ H30 X30 hS30 hE30 hP30 Z
 obtain ⟨g49,o49,cs49,hv49,hrk_hat49,hat49⟩:=(hP30 28 75 rfl rfl)
 obtain rfl : _ = [_]:=hrk_hat49
 refine L_ld rfl Tryz.isAgg5 hv49 (At.cell (AtH.at hat49 Z.sub) (j:=0) rfl) (L_nil ⟨rfl,_,_,rfl,Le.refl _,fun _ _=>rfl,Z⟩)
 refine opsS_cons (fun f w_ _ _ _ _ p Z=>L_cv (n:=(x24.toNat : Int)) rfl (p 29 76 rfl rfl) ⟨_,Tryz.underlying5⟩ Tryz.underlying3 (nO rfl rfl Z)) (opsS_cons (fun f w_ _ _ _ _ p Z=>L_mul rfl (p 30 77 rfl rfl) rfl (nO rfl rfl Z)) (opsS_cons (fun f w_ _ _ _ _ p Z=>L_add rfl (p 14 61 rfl rfl) (p 31 78 rfl rfl) (nO rfl rfl Z)) (opsS_cons (fun f w_ _ _ s _ _ Z=>mF ((s 5 rfl).trans rfl) rfl (nO rfl rfl Z)) (opsS_cons (fun f w_ _ _ _ _ p Z=>L_mul rfl (p 33 80 rfl rfl) rfl (nO rfl rfl Z)) (opsS_cons (fun f w_ _ _ _ _ p Z=>L_add rfl (p 32 79 rfl rfl) (p 34 81 rfl rfl) (nO rfl rfl Z)) (opsS_cons (fun f w_ _ _ s _ _ Z=>mF ((s 5 rfl).trans rfl) rfl (nO rfl rfl Z)) (opsS_cons (fun f w_ _ _ s _ _ Z=>mF ((s 0 rfl).trans sf0) rfl (nO rfl rfl Z)) (opsS_cons (fun f w_ _ _ _ _ p Z=>L_nc rfl (p 37 84 rfl rfl) (nO rfl rfl Z)) (opsS_cons (fun f w_ _ _ _ _ p Z=>fA 0 fa_117_0 (p 38 85 rfl rfl) rfl (nO rfl rfl Z)) (opsS_cons (fun f w_ _ _ _ _ p Z=>ldB 0 Z Tryz.isAgg31 (p 39 86 rfl rfl) rfl rfl (nO rfl rfl Z)) (opsS_cons (fun f w_ _ _ _ hE30 p Z=>L_len rfl Tryz.underlying31 (p 40 87 rfl rfl) (slice_len (RP.mono _ h0_0 hE30)) (nO rfl rfl Z)) (opsS_cons (fun f w_ _ _ _ _ p Z=>L_quo (m:=i64 ((i64 (r_.p + 1)) - 1)) (n:=(r_.b.length : Int)) rfl (p 36 83 rfl rfl) (p 41 88 rfl rfl) (fun he=>by rw [if_pos he] at hq29; cases hq29) (nO rfl rfl Z)) (opsS_cons (fun f w_ _ _ _ _ p Z=>L_mul rfl (p 42 89 rfl rfl) rfl (nO rfl rfl Z)) (opsS_nil))))))))))))))
 refine L_add rfl (hT30 35 82 rfl rfl) (hT30 43 90 rfl rfl) (aI rfl (ns (mI rfl (mI rfl (L_quo (m:=i64 ((i64 ((i64 ((i64 ((i64 (x18.toNat : Int)) * 131)) + (i64 ((i64 (x24.toNat : Int)) * 1117)))) + (i64 ((i64 ((i64 (r_.p + 1)) - 1)) * 29)))) + (i64 ((i64 (Int.tdiv (i64 ((i64 (r_.p + 1)) - 1)) (r_.b.length : Int))) * 53)))) (n:=64) rfl rfl rfl (by decide) (L_xor (m:=i64 ((i64 ((i64 ((i64 ((i64 (x18.toNat : Int)) * 131)) + (i64 ((i64 (x24.toNat : Int)) * 1117)))) + (i64 ((i64 ((i64 (r_.p + 1)) - 1)) * 29)))) + (i64 ((i64 (Int.tdiv (i64 ((i64 (r_.p + 1)) - 1)) (r_.b.length : Int))) * 53)))) (n:=i64 (Int.tdiv (i64 ((i64 ((i64 ((i64 ((i64 (x18.toNat : Int)) * 131)) + (i64 ((i64 (x24.toNat : Int)) * 1117)))) + (i64 ((i64 ((i64 (r_.p + 1)) - 1)) * 29)))) + (i64 ((i64 (Int.tdiv (i64 ((i64 (r_.p + 1)) - 1)) (r_.b.length : Int))) * 53)))) 64)) rfl rfl rfl (aI rfl (nq ?_))))))))
 obtain ⟨q51,hq51,hF⟩:=bind_some hF
 refine W_region (mI rfl (mF ((hS30 1 rfl).trans sf1) rfl (L_rem (m:=(xorI .i64 (i64 ((i64 ((i64 ((i64 ((i64 (x18.toNat : Int)) * 131)) + (i64 ((i64 (x24.toNat : Int)) * 1117)))) + (i64 ((i64 ((i64 (r_.p + 1)) - 1)) * 29)))) + (i64 ((i64 (Int.tdiv (i64 ((i64 (r_.p + 1)) - 1)) (r_.b.length : Int))) * 53)))) (i64 (Int.tdiv (i64 ((i64 ((i64 ((i64 ((i64 (x18.toNat : Int)) * 131)) + (i64 ((i64 (x24.toNat : Int)) * 1117)))) + (i64 ((i64 ((i64 (r_.p + 1)) - 1)) * 29)))) + (i64 ((i64 (Int.tdiv (i64 ((i64 (r_.p + 1)) - 1)) (r_.b.length : Int))) * 53)))) 64)))) (n:=n_) rfl rfl rfl (fun he=>by rw [if_pos he] at hq51; cases hq51) (aI rfl (nn (W_ret (retG1 (v1:=I (Int.tmod (xorI .i64 (i64 ((i64 ((i64 ((i64 ((i64 (x18.toNat : Int)) * 131)) + (i64 ((i64 (x24.toNat : Int)) * 1117)))) + (i64 ((i64 ((i64 (r_.p + 1)) - 1)) * 29)))) + (i64 ((i64 (Int.tdiv (i64 ((i64 (r_.p + 1)) - 1)) (r_.b.length : Int))) * 53)))) (i64 (Int.tdiv (i64 ((i64 ((i64 ((i64 ((i64 (x18.toNat : Int)) * 131)) + (i64 ((i64 (x24.toNat : Int)) * 1117)))) + (i64 ((i64 ((i64 (r_.p + 1)) - 1)) * 29)))) + (i64 ((i64 (Int.tdiv (i64 ((i64 (r_.p + 1)) - 1)) (r_.b.length : Int))) * 53)))) 64))) n_)) Tryz.results63 rfl ?_)))))))
 obtain rfl:=so hF
 exact ⟨rfl,(Star.down Z hE30 (cb c0))⟩
theorem s_l17Rd_num_c {r_ : Rd} {list : List Int} {g_0 : Nat} {v0_0 : Value} {v1 : Value} {H : FH} {w : World} (Z : Star H w [box g_0 117 #[v0_0,I r_.p]]) (h0_0 : (rS 5 RP.u8).rel H [v0_0] r_.b) (h1 : (rS 3 RP.int).rel H [v1] list) {r : Int × Int} (hF : s_l17Rd_num r_ list = some r) :
 C Tryz.prog 64 #[Pt g_0,v1] w fun v w'=>v = I r.1∧Star H w' [box g_0 117 #[v0_0,I r.2]]:=by
 unfold s_l17Rd_num at hF
 refine C_enter Tryz.func64 rfl Tryz.ntmps64 rfl (sq (aI rfl (nq ?_)))
 obtain ⟨x6,hx6,hF⟩:=bind_some hF
 obtain ⟨x8,hx8,hF⟩:=bind_some hF
 refine W_region (mV v1 rfl (mV (Pt g_0) rfl (mV v1 rfl (L_len rfl Tryz.underlying22 rfl (slice_len h1) ?_))))
 obtain ⟨H13b,l14,s15,z16,k17⟩:=Z.lend [_]
 refine L_call rfl Tryz.call63 (ops2 rfl rfl) (s_l17Rd_pick_c (r_:=r_) (n_:=(list.length : Int)) s15 (RP.mono _ h0_0 l14) hx6) ?_
 rintro _ w18 ⟨rfl,Z⟩
 have Z:=k17 Z (cb c0)
 refine L_ix (r:=RP.int) rfl Tryz.underlying22 Tryz.sizeOf3 rfl h1 rfl hx8 (fun g19 o20 cs_g19 hrk_hat21 hat21=>?_)
 obtain rfl : _ = [_]:=hrk_hat21
 refine L_ld rfl Tryz.isAgg3 rfl (At.cell (AtH.at hat21 Z.sub) (j:=0) rfl) (aI rfl (nn (W_ret (retG1 (v1:=I x8) Tryz.results64 rfl ?_))))
 obtain rfl:=so hF
 exact ⟨rfl,Z⟩
theorem s_l6Some_c {fu : Nat} {r_ : Rd} {m : Model} {least : Int} {g_0 : Nat} {v0_0 : Value} {v1_0 : Value} {v1_1 : Value} {H : FH} {w : World} (Z : Star H w [box g_0 117 #[v0_0,I r_.p]]) (h0_0 : (rS 5 RP.u8).rel H [v0_0] r_.b) (h1_0 : (rS 3 RP.int).rel H [v1_0] m.sizes) (h1_1 : (rS 49 (rRule 3 22)).rel H [v1_1] m.rules) {r : (List Int) × Int} (hF : s_l6Some fu r_ m least = some r) :
 C Tryz.prog 136 #[Pt g_0,.agg #[v1_0,v1_1],I least] w fun v w'=>∃ (u1 : Value),v = u1∧Star H w' [oF 3 RP.int u1 r.1,box g_0 117 #[v0_0,I r.2]]:=by
 unfold s_l6Some at hF
 refine C_enter Tryz.func136 rfl Tryz.ntmps136 rfl (sq (L_box (v:=.agg #[v1_0,v1_1]) (cs:=#[v1_0,v1_1]) rfl rfl rfl Z (fun g3 w4 Z=>aV S0 rfl (ns (L_bs rfl parts0 (bs_22_0  ) Z (fun g8 w9 Z=>?_))))))
 have Z:=Star.mkRow (R:=(OR.frz RP.int)) [] [] 0 Z rfl rfl rfl (by decide)
 refine aV (Sl g8 0 0) rfl (nq (sq (aI rfl (nn ?_))))
 have hlen15 : List.length m.sizes≤9223372036854775807:=len_le (slice_len h1_0)
 obtain ⟨j15,hL15,hF⟩:=bind_some hF
 obtain ⟨R15,hR15⟩:=exR fun f w_=>∃ out_12 : List Int,∃ g_0_1_14 : Int,∃ v12_out : Value,j15 = .nx (out_12,g_0_1_14)∧f 0 = Pt g_0∧f 2 = I least∧f 4 = Pt g3∧f 7 = v12_out∧Star H w_ ([oF 3 RP.int v12_out out_12,box g_0 117 #[v0_0,I g_0_1_14],box g3 25 #[v1_0,v1_1]])
 refine W_join R15 ?_ ?_
 refine W_block ?_
 obtain ⟨I15,hI15⟩:=exI fun n f w_=>∃ i_11 : Nat,∃ suf15 : List Int,∃ out_12 : List Int,∃ g_0_1_14 : Int,∃ v12_out : Value,n = suf15.length∧List.drop i_11 m.sizes = suf15∧i_11 + suf15.length = m.sizes.length∧rangeL (s_l6Some_b1 r_) suf15 i_11 (out_12,g_0_1_14) = some j15∧f 0 = Pt g_0∧f 2 = I least∧f 4 = Pt g3∧f 7 = v12_out∧f 8 = I i_11∧Star H w_ ([oF 3 RP.int v12_out out_12,box g_0 117 #[v0_0,I g_0_1_14],box g3 25 #[v1_0,v1_1]])
 have Z:=Z.gets [1,2,2] rfl
 refine W_loop I15 (n:=m.sizes.length) ?_ ?_
 exact ij hI15 ⟨0,m.sizes,[],r_.p,(Sl g8 0 0),rfl,rfl,Nat.zero_add _,hL15,rfl,rfl,rfl,rfl,rfl,Z⟩
 intro n15 f w_ hI
 obtain ⟨i_11,suf15,out_12,g_0_1_14,v12_out,rfl,hd15,hl15,hL15,sf0,sf2,sf4,sf7,sf8,Z⟩:=ik hI15 hI
 refine W_seq (sq (mF sf8 rfl (fA 0 fa_25_0 sf4 rfl (ldB 2 Z Tryz.isAgg22 rfl rfl rfl (L_len rfl Tryz.underlying22 rfl (slice_len h1_0) (L_lss rfl rfl rfl (nn (W_cond (b:=decide ((i_11 : Int) < (m.sizes.length : Int))) rfl (fun hc16=>?_) (fun hc16=>?_)))))))))
 have hlt15:=of_decide_eq_true hc16
 rcases suf15 with _ | ⟨x_15,rest15⟩
 exact absurd hlt15 (by simp at hl15; omega)
 obtain ⟨o15,hB15,hL15⟩:=range_cons hL15
 rw [s_l6Some_b1] at hB15
 have hix15:=drop_idx hd15
 refine W_skip (W_seq (W_block (W_seq ?_)))
 obtain ⟨x22,hx22,hB15⟩:=bind_some hB15
 refine W_region (mF sf0 rfl ?_)
 have Z:=Z.get 1 rfl
 obtain ⟨H24b,l25,s26,z27,k28⟩:=Z.lend [_]
 refine L_call rfl Tryz.call63 (ops2 rfl rfl) (s_l17Rd_pick_c (r_:=({ b:=r_.b,p:=g_0_1_14 } : Rd)) (n_:=3) s26 (RP.mono _ h0_0 l25) hx22) ?_
 rintro _ w29 ⟨rfl,Z⟩
 have Z:=k28 Z (cb c0)
 refine L_gtr rfl rfl rfl (nn ?_)
 obtain ⟨out_30,hA32,hB15⟩:=bind_some hB15
 obtain ⟨R32,hR32⟩:=exR fun f w_=>∃ v30_out : Value,f 0 = Pt g_0∧f 2 = I least∧f 4 = Pt g3∧f 7 = v30_out∧f 8 = I i_11∧Star H w_ ([oF 3 RP.int v30_out out_30,box g_0 117 #[v0_0,I x22.2],box g3 25 #[v1_0,v1_1]])
 refine W_join R32 ?_ ?_
 refine W_cond (b:=decide (x22.1 > 0)) rfl (fun hc33=>?_) (fun hc33=>?_)
 have hA32:=(ite_t hc33).symm.trans hA32
 obtain ⟨x37,hx37,hA32⟩:=bind_some hA32
 refine W_region (mF sf7 rfl (mF sf8 rfl (L_bs rfl (parts1 rfl) (bs_22_1_0 (I i_11) rfl) Z (fun g41 w42 Z=>?_))))
 have Z:=Star.addF (r:=RP.int) (cs:=[I i_11]) (x:=(i_11 : Int)) Z rfl
 have Z:=Star.mkRow (R:=(OR.frz RP.int)) [([I i_11],(i_11 : Int))] [(i_11 : Int)] 1 Z rfl rfl rfl (by decide)
 have Z:=Z.get 2 rfl
 refine L_appM (v:=v12_out) (u:=(Sl g41 1 1)) rfl et_22 rfl rfl Z hx37 (fun v44 w45 Z=>aV v44 rfl (nn ?_))
 obtain rfl:=so hA32
 exact rj hR32 ⟨v44,sf0,sf2,sf4,rfl,sf8,Z⟩
 have hA32:=(ite_f hc33).symm.trans hA32
 refine W_skip ?_
 obtain rfl:=so hA32
 have Z:=Z.gets [2,1,2] rfl
 exact rj hR32 ⟨v12_out,sf0,sf2,sf4,sf7,sf8,Z⟩
 intro f w_ hR
 obtain ⟨v30_out,sf0,sf2,sf4,sf7,sf8,Z⟩:=rk hR32 hR
 refine W_region (mF sf8 rfl (L_add rfl rfl rfl (aI rfl (nn ?_))))
 obtain rfl:=so hB15
 show ∃ m,m < _∧I15 m _ _
 refine ⟨rest15.length,by simp,?_⟩
 exact ij hI15 ⟨i_11 + 1,rest15,out_30,x22.2,v30_out,rfl,drop_next hd15,by simp at hl15; omega,hL15,sf0,sf2,sf4,sf7,(Eq.trans rfl (congrArg (Value.int .i64) (i64_succ (n:=m.sizes.length) (by simp at hl15; omega) hlen15))),Z⟩
 rcases suf15 with _ | ⟨_,_⟩
 obtain rfl:=range_nil hL15
 refine W_exit (rj hR15 ⟨out_12,g_0_1_14,v12_out,rfl,sf0,sf2,sf4,sf7,Z⟩)
 exact absurd (of_decide_eq_false hc16) (by simp at hl15; omega)
 intro f w_ hR
 obtain ⟨out_12,g_0_1_14,v12_out,rfl,sf0,sf2,sf4,sf7,Z⟩:=rk hR15 hR
 refine W_seq (sq (aI rfl (nn ?_)))
 obtain ⟨j53,hL53,hF⟩:=bind_some hF
 obtain ⟨R53,hR53⟩:=exR fun f w_=>∃ out_50 : List Int,∃ v_52 : Int,∃ v50_out : Value,j53 = .nx (out_50,v_52)∧f 0 = Pt g_0∧f 2 = I least∧f 7 = v50_out∧Star H w_ ([oF 3 RP.int v50_out out_50,box g_0 117 #[v0_0,I g_0_1_14]])
 refine W_join R53 ?_ ?_
 refine W_block ?_
 obtain ⟨I53,hI53⟩:=exI fun n f w_=>∃ out_50 : List Int,∃ v_52 : Int,∃ v50_out : Value,whileL (s_l6Some_b2 m least) n (out_50,v_52) = some j53∧f 0 = Pt g_0∧f 2 = I least∧f 4 = Pt g3∧f 7 = v50_out∧f 9 = I v_52∧Star H w_ ([oF 3 RP.int v50_out out_50,box g_0 117 #[v0_0,I g_0_1_14],box g3 25 #[v1_0,v1_1]])
 refine W_loop I53 (n:=fu) ?_ ?_
 exact ij hI53 ⟨out_12,0,v12_out,hL53,sf0,sf2,sf4,sf7,rfl,Z⟩
 intro n53 f w_ hI
 obtain ⟨out_50,v_52,v50_out,hL53,sf0,sf2,sf4,sf7,sf9,Z⟩:=ik hI53 hI
 rcases n53 with _ | n53
 exact (while_zero hL53).elim
 obtain ⟨o53,hB53,hL53⟩:=while_succ hL53
 rw [s_l6Some_b2] at hB53
 refine W_seq (W_seq ?_)
 obtain ⟨R54,hR54⟩:=exR fun f w_=>f 0 = Pt g_0∧f 2 = I least∧f 4 = Pt g3∧f 7 = v50_out∧f 9 = I v_52∧f 37 = Bo ((decide ((out_50.length : Int) < least)) && (decide (v_52 < (m.sizes.length : Int))))∧Star H w_ ([oF 3 RP.int v50_out out_50,box g_0 117 #[v0_0,I g_0_1_14],box g3 25 #[v1_0,v1_1]])
 refine W_join R54 ?_ ?_
 refine W_region (mF sf7 rfl (L_len rfl Tryz.underlying22 rfl (Star.len 0 Z rfl) (mF sf2 rfl (L_lss rfl rfl rfl (mB rfl (L_split (d:=31) (b:=decide ((out_50.length : Int) < least)) rfl (fun hc55=>?_) (fun hc55=>?_)))))))
 refine mF sf9 rfl (fA 0 fa_25_0 sf4 rfl (ldB 2 Z Tryz.isAgg22 rfl rfl rfl (L_len rfl Tryz.underlying22 rfl (slice_len h1_0) (L_lss rfl rfl rfl (L_pick (v:=Bo ((decide ((out_50.length : Int) < least)) && (decide (v_52 < (m.sizes.length : Int))))) rfl rfl (and_t hc55 rfl) (nn (rj hR54 ⟨sf0,sf2,sf4,sf7,sf9,rfl,Z⟩)))))))
 refine ps rfl (ps rfl (ps rfl (ps rfl (ps rfl (L_pick (v:=Bo ((decide ((out_50.length : Int) < least)) && (decide (v_52 < (m.sizes.length : Int))))) rfl rfl (and_f hc55) (nn (rj hR54 ⟨sf0,sf2,sf4,sf7,sf9,rfl,Z⟩)))))))
 intro f w_ hR
 obtain ⟨sf0,sf2,sf4,sf7,sf9,sf37,Z⟩:=rk hR54 hR
 refine W_cond (b:=((decide ((out_50.length : Int) < least)) && (decide (v_52 < (m.sizes.length : Int))))) sf37 (fun hc56=>?_) (fun hc56=>?_)
 have hB53:=(ite_t hc56).symm.trans hB53
 refine W_skip (W_seq (W_block (W_seq ?_)))
 obtain ⟨b62,hb62,hB53⟩:=bind_some hB53
 obtain ⟨R63,hR63⟩:=exR fun f w_=>f 0 = Pt g_0∧f 2 = I least∧f 4 = Pt g3∧f 7 = v50_out∧f 9 = I v_52∧f 52 = Bo b62∧Star H w_ ([oF 3 RP.int v50_out out_50,box g_0 117 #[v0_0,I g_0_1_14],box g3 25 #[v1_0,v1_1]])
 refine W_join R63 ?_ ?_
 refine W_region (mF sf7 rfl (L_len rfl Tryz.underlying22 rfl (Star.len 0 Z rfl) (L_eql rfl rfl rfl (mB rfl (L_split (d:=43) (b:=((out_50.length : Int) == 0)) rfl (fun hc64=>?_) (fun hc64=>?_))))))
 rw [ite_t hc64] at hb62
 refine ps rfl (ps rfl (ps rfl (ps rfl (ps rfl (ps rfl (ps rfl (ps rfl (L_pick (v:=Bo b62) rfl rfl (congrArg Value.bool (so hb62)) (nn (rj hR63 ⟨sf0,sf2,sf4,sf7,sf9,rfl,Z⟩))))))))))
 rw [ite_f hc64] at hb62
 obtain ⟨x57,hx57,hb62⟩:=bind_some hb62
 refine mF sf7 rfl (mF sf7 rfl (L_len rfl Tryz.underlying22 rfl (Star.len 0 Z rfl) (L_sub rfl rfl rfl ?_)))
 obtain ⟨g65,cap_g65,hv66,_,_⟩:=Star.row 0 Z rfl hx57
 refine L_ixO (R:=(OR.frz RP.int)) (tb:=0) 0 rfl Tryz.underlying22 Tryz.sizeOf3 rfl hv66 (by first | rfl | simp) rfl hx57 ?_
 obtain ⟨cs67,hr67,hat67⟩:=Star.eltF 0 Z rfl hv66 hx57
 obtain rfl : _ = [_]:=hr67
 refine L_ld rfl Tryz.isAgg3 rfl (At.cell hat67 (j:=0) rfl) (mF sf9 rfl (L_lss rfl rfl rfl (L_pick (v:=Bo b62) rfl rfl (congrArg Value.bool (so hb62)) (nn (rj hR63 ⟨sf0,sf2,sf4,sf7,sf9,rfl,Z⟩)))))
 intro f w_ hR
 obtain ⟨sf0,sf2,sf4,sf7,sf9,sf52,Z⟩:=rk hR63 hR
 obtain ⟨out_69,hA71,hB53⟩:=bind_some hB53
 obtain ⟨R71,hR71⟩:=exR fun f w_=>∃ v69_out : Value,f 0 = Pt g_0∧f 2 = I least∧f 4 = Pt g3∧f 7 = v69_out∧f 9 = I v_52∧Star H w_ ([oF 3 RP.int v69_out out_69,box g_0 117 #[v0_0,I g_0_1_14],box g3 25 #[v1_0,v1_1]])
 refine W_join R71 ?_ ?_
 refine W_cond (b:=b62) sf52 (fun hc72=>?_) (fun hc72=>?_)
 have hA71:=(ite_t hc72).symm.trans hA71
 obtain ⟨x76,hx76,hA71⟩:=bind_some hA71
 refine W_region (mF sf7 rfl (mF sf9 rfl (L_bs rfl (parts1 rfl) (bs_22_1_0 (I v_52) rfl) Z (fun g80 w81 Z=>?_))))
 have Z:=Star.addF (r:=RP.int) (cs:=[I v_52]) (x:=v_52) Z rfl
 have Z:=Star.mkRow (R:=(OR.frz RP.int)) [([I v_52],v_52)] [v_52] 1 Z rfl rfl rfl (by decide)
 have Z:=Z.get 1 rfl
 refine L_appM (v:=v50_out) (u:=(Sl g80 1 1)) rfl et_22 rfl rfl Z hx76 (fun v83 w84 Z=>aV v83 rfl (nn ?_))
 obtain rfl:=so hA71
 exact rj hR71 ⟨v83,sf0,sf2,sf4,rfl,sf9,Z⟩
 have hA71:=(ite_f hc72).symm.trans hA71
 refine W_skip ?_
 obtain rfl:=so hA71
 exact rj hR71 ⟨v50_out,sf0,sf2,sf4,sf7,sf9,Z⟩
 intro f w_ hR
 obtain ⟨v69_out,sf0,sf2,sf4,sf7,sf9,Z⟩:=rk hR71 hR
 refine W_region (mF sf9 rfl (L_add rfl rfl rfl (aI rfl (nn ?_))))
 obtain rfl:=so hB53
 show ∃ m,m < _∧I53 m _ _
 refine ⟨n53,Nat.lt_succ_self _,?_⟩
 exact ij hI53 ⟨out_69,i64 (v_52 + 1),v69_out,hL53,sf0,sf2,sf4,sf7,rfl,Z⟩
 have hB53:=(ite_f hc56).symm.trans hB53
 refine W_exit ?_
 obtain rfl:=so hB53
 obtain rfl:=so hL53
 exact rj hR53 ⟨out_50,v_52,v50_out,rfl,sf0,sf2,sf7,(Star.keepN 2 Z)⟩
 intro f w_ hR
 obtain ⟨out_50,v_52,v50_out,rfl,sf0,sf2,sf7,Z⟩:=rk hR53 hR
 refine W_seq (W_seq ?_)
 obtain ⟨R86,hR86⟩:=exR fun f w_=>f 0 = Pt g_0∧f 2 = I least∧f 7 = v50_out∧f 65 = Bo ((decide ((out_50.length : Int) < least)) || ((out_50.length : Int) == 0))∧Star H w_ ([oF 3 RP.int v50_out out_50,box g_0 117 #[v0_0,I g_0_1_14]])
 refine W_join R86 ?_ ?_
 refine W_region (mF sf7 rfl (L_len rfl Tryz.underlying22 rfl (Star.len 0 Z rfl) (mF sf2 rfl (L_lss rfl rfl rfl (mB rfl (L_split (d:=61) (b:=decide ((out_50.length : Int) < least)) rfl (fun hc87=>?_) (fun hc87=>?_)))))))
 refine ps rfl (ps rfl (ps rfl (L_pick (v:=Bo ((decide ((out_50.length : Int) < least)) || ((out_50.length : Int) == 0))) rfl rfl (or_t hc87) (nn (rj hR86 ⟨sf0,sf2,sf7,rfl,Z⟩)))))
 refine mF sf7 rfl (L_len rfl Tryz.underlying22 rfl (Star.len 0 Z rfl) (L_eql rfl rfl rfl (L_pick (v:=Bo ((decide ((out_50.length : Int) < least)) || ((out_50.length : Int) == 0))) rfl rfl (or_f hc87 rfl) (nn (rj hR86 ⟨sf0,sf2,sf7,rfl,Z⟩)))))
 intro f w_ hR
 obtain ⟨sf0,sf2,sf7,sf65,Z⟩:=rk hR86 hR
 obtain ⟨out_88,hA90,hF⟩:=bind_some hF
 obtain ⟨R90,hR90⟩:=exR fun f w_=>∃ v88_out : Value,f 0 = Pt g_0∧f 7 = v88_out∧Star H w_ ([oF 3 RP.int v88_out out_88,box g_0 117 #[v0_0,I g_0_1_14]])
 refine W_join R90 ?_ ?_
 refine W_cond (b:=((decide ((out_50.length : Int) < least)) || ((out_50.length : Int) == 0))) sf65 (fun hc91=>?_) (fun hc91=>?_)
 have hA90:=(ite_t hc91).symm.trans hA90
 refine sq (L_bs rfl parts0 (bs_22_0  ) Z (fun g95 w96 Z=>?_))
 have Z:=Star.mkRow (R:=(OR.frz RP.int)) [] [] 0 Z rfl rfl rfl (by decide)
 refine aV (Sl g95 0 0) rfl (ns (aI rfl (nn ?_)))
 obtain ⟨k102,hk102,hA90⟩:=bind_some hA90
 obtain ⟨j101,hL101,hA90⟩:=bind_some hA90
 obtain ⟨R101,hR101⟩:=exR fun f w_=>∃ out_99 : List Int,∃ v99_out : Value,j101 = .nx out_99∧f 0 = Pt g_0∧f 7 = v99_out∧Star H w_ ([oF 3 RP.int v99_out out_99,box g_0 117 #[v0_0,I g_0_1_14]])
 refine W_join R101 ?_ ?_
 refine W_block ?_
 obtain ⟨I101,hI101⟩:=exI fun n f w_=>∃ i_98 : Nat,∃ suf101 : Nat,∃ out_99 : List Int,∃ v99_out : Value,suf101 = n∧0≤i_98∧i_98 + suf101 = 0 + k102∧countL s_l6Some_b3 suf101 i_98 out_99 = some j101∧f 0 = Pt g_0∧f 2 = I least∧f 7 = v99_out∧f 10 = I i_98∧Star H w_ ([oF 3 RP.int v99_out out_99,box g_0 117 #[v0_0,I g_0_1_14]])
 have Z:=Z.gets [2,1] rfl
 refine W_loop I101 (n:=k102) ?_ ?_
 exact ij hI101 ⟨0,k102,[],(Sl g95 0 0),rfl,Nat.le_refl _,rfl,hL101,sf0,sf2,rfl,rfl,(Star.keepN 2 Z)⟩
 intro n101 f w_ hI
 obtain ⟨i_98,suf101,out_99,v99_out,rfl,hs101,hl101,hL101,sf0,sf2,sf7,sf10,Z⟩:=ik hI101 hI
 refine W_seq (sq (mF sf10 rfl (mF sf2 rfl (L_lss rfl rfl rfl (nn (W_cond (b:=decide ((i_98 : Int) < least)) rfl (fun hc103=>?_) (fun hc103=>?_)))))))
 have hlt101:=of_decide_eq_true hc103
 rcases suf101 with _ | rest101
 exact absurd hlt101 (cntF_no hl101 hk102)
 obtain ⟨o101,hB101,hL101⟩:=count_succ hL101
 rw [s_l6Some_b3] at hB101
 refine W_skip (W_seq (W_block ?_))
 obtain ⟨x107,hx107,hB101⟩:=bind_some hB101
 refine W_region (mF sf7 rfl (mF sf10 rfl (L_bs rfl (parts1 rfl) (bs_22_1_0 (I i_98) rfl) Z (fun g111 w112 Z=>?_))))
 have Z:=Star.addF (r:=RP.int) (cs:=[I i_98]) (x:=(i_98 : Int)) Z rfl
 have Z:=Star.mkRow (R:=(OR.frz RP.int)) [([I i_98],(i_98 : Int))] [(i_98 : Int)] 1 Z rfl rfl rfl (by decide)
 have Z:=Z.get 1 rfl
 refine L_appM (v:=v99_out) (u:=(Sl g111 1 1)) rfl et_22 rfl rfl Z hx107 (fun v114 w115 Z=>aV v114 rfl (nn (W_region (mF sf10 rfl (L_add rfl rfl rfl (aI rfl (nn ?_)))))))
 obtain rfl:=so hB101
 show ∃ m,m < _∧I101 m _ _
 refine ⟨rest101,Nat.lt_succ_self _,?_⟩
 exact ij hI101 ⟨i_98 + 1,rest101,x107,v114,rfl,by omega,by omega,hL101,sf0,sf2,rfl,(Eq.trans rfl (congrArg (Value.int .i64) (i64_succ (n:=0 + k102) (by omega) (cntF_le hk102)))),Z⟩
 rcases suf101 with _ | _
 obtain rfl:=count_zero hL101
 refine W_exit (rj hR101 ⟨out_99,v99_out,rfl,sf0,sf7,Z⟩)
 exact absurd (cntF_yes hs101 hl101 hk102) (of_decide_eq_false hc103)
 intro f w_ hR
 obtain ⟨out_99,v99_out,rfl,sf0,sf7,Z⟩:=rk hR101 hR
 obtain rfl:=so hA90
 exact rj hR90 ⟨v99_out,sf0,sf7,Z⟩
 have hA90:=(ite_f hc91).symm.trans hA90
 refine W_skip ?_
 obtain rfl:=so hA90
 exact rj hR90 ⟨v50_out,sf0,sf7,Z⟩
 intro f w_ hR
 obtain ⟨v88_out,sf0,sf7,Z⟩:=rk hR90 hR
 refine W_seq (W_seq ?_)
 obtain ⟨b124,hb124,hF⟩:=bind_some hF
 obtain ⟨R125,hR125⟩:=exR fun f w_=>f 7 = v88_out∧f 83 = Bo b124.1∧Star H w_ ([oF 3 RP.int v88_out out_88,box g_0 117 #[v0_0,I b124.2]])
 refine W_join R125 ?_ ?_
 refine W_region (mF sf7 rfl (L_len rfl Tryz.underlying22 rfl (Star.len 0 Z rfl) (L_gtr rfl rfl rfl (mB rfl (L_split (d:=79) (b:=decide ((out_88.length : Int) > 1)) rfl (fun hc126=>?_) (fun hc126=>?_))))))
 rw [ite_t hc126] at hb124
 obtain ⟨x122,hx122,hb124⟩:=bind_some hb124
 refine mF sf0 rfl ?_
 have Z:=Z.get 1 rfl
 obtain ⟨H127b,l128,s129,z130,k131⟩:=Z.lend [_]
 refine L_call rfl Tryz.call63 (ops2 rfl rfl) (s_l17Rd_pick_c (r_:=({ b:=r_.b,p:=g_0_1_14 } : Rd)) (n_:=3) s129 (RP.mono _ h0_0 l128) hx122) ?_
 rintro _ w132 ⟨rfl,Z⟩
 have Z:=k131 Z (cb c0)
 refine L_eql rfl rfl rfl (L_pick (v:=Bo b124.1) rfl rfl (congrArg (fun z : Bool × Int=>Value.bool z.1) (so hb124)) ?_)
 have Z : Star H w132 ([box g_0 117 #[v0_0,I b124.2],oF 3 RP.int v88_out out_88]):=by rw [← so hb124]; exact Z
 refine nn ?_
 have Z:=Z.get 1 rfl
 exact rj hR125 ⟨sf7,rfl,Z⟩
 rw [ite_f hc126] at hb124
 refine ps rfl (ps rfl (ps rfl (L_pick (v:=Bo b124.1) rfl rfl (congrArg (fun z : Bool × Int=>Value.bool z.1) (so hb124)) ?_)))
 have Z:=Z.get 1 rfl
 have Z : Star H w_ ([box g_0 117 #[v0_0,I b124.2],oF 3 RP.int v88_out out_88]):=by rw [← so hb124]; exact Z
 refine nn ?_
 have Z:=Z.get 1 rfl
 exact rj hR125 ⟨sf7,rfl,Z⟩
 intro f w_ hR
 obtain ⟨sf7,sf83,Z⟩:=rk hR125 hR
 obtain ⟨out_133,hA134,hF⟩:=bind_some hF
 obtain ⟨R134,hR134⟩:=exR fun f w_=>f 7 = v88_out∧Star H w_ ([oF 3 RP.int v88_out out_133,box g_0 117 #[v0_0,I b124.2]])
 refine W_join R134 ?_ ?_
 refine W_cond (b:=b124.1) sf83 (fun hc135=>?_) (fun hc135=>?_)
 have hA134:=(ite_t hc135).symm.trans hA134
 refine W_seq ?_
 obtain ⟨x136,hx136,hA134⟩:=bind_some hA134
 refine W_region (mF sf7 rfl ?_)
 obtain ⟨g141,cap_g141,hv142,_,_⟩:=Star.row 0 Z rfl hx136
 refine L_ixO (R:=(OR.frz RP.int)) (tb:=0) 0 rfl Tryz.underlying22 Tryz.sizeOf3 rfl hv142 (by first | rfl | simp) rfl hx136 ?_
 obtain ⟨cs143,hr143,hat143⟩:=Star.eltF 0 Z rfl hv142 hx136
 obtain rfl : _ = [_]:=hr143
 refine L_ld rfl Tryz.isAgg3 rfl (At.cell hat143 (j:=0) rfl) (aI rfl (nq ?_))
 obtain ⟨x145,hx145,hA134⟩:=bind_some hA134
 refine W_region (mF sf7 rfl (mF sf7 rfl (L_ixO (R:=(OR.frz RP.int)) (tb:=0) 0 rfl Tryz.underlying22 Tryz.sizeOf3 rfl hv142 (by first | rfl | simp) rfl hx145 ?_)))
 obtain ⟨cs149,hr149,hat149⟩:=Star.eltF 0 Z rfl hv142 hx145
 obtain rfl : _ = [_]:=hr149
 refine L_ld rfl Tryz.isAgg3 rfl (At.cell hat149 (j:=0) rfl) (L_ixO (R:=(OR.frz RP.int)) (tb:=0) 0 rfl Tryz.underlying22 Tryz.sizeOf3 rfl hv142 (by first | rfl | simp) rfl hx136 ?_)
 have Z:=Star.addF (r:=RP.int) (cs:=[I x145]) (x:=x145) Z rfl
 refine L_stE1 (u:=I x145) rfl Tryz.sizeOf3 rfl rfl rfl hv142 Z hx136 (fun w151 Z=>?_)
 refine nn ?_
 obtain ⟨x152,hx152,hA134⟩:=bind_some hA134
 refine W_region (mF sf7 rfl (mI rfl (L_ixO (R:=(OR.frz RP.int)) (tb:=0) 0 rfl Tryz.underlying22 Tryz.sizeOf3 rfl hv142 (by first | rfl | simp) rfl hx152 ?_)))
 have Z:=Star.addF (r:=RP.int) (cs:=[I x136]) (x:=x136) Z rfl
 refine L_stE1 (u:=I x136) rfl Tryz.sizeOf3 rfl rfl rfl hv142 Z hx152 (fun w154 Z=>?_)
 refine nn ?_
 obtain rfl:=so hA134
 exact rj hR134 ⟨sf7,Z⟩
 have hA134:=(ite_f hc135).symm.trans hA134
 refine W_skip ?_
 obtain rfl:=so hA134
 exact rj hR134 ⟨sf7,Z⟩
 intro f w_ hR
 obtain ⟨sf7,Z⟩:=rk hR134 hR
 refine sq (mF sf7 rfl (aV v88_out rfl (nn (W_ret (retG1 (v1:=v88_out) Tryz.results136 rfl ?_)))))
 obtain rfl:=so hF
 exact ⟨v88_out,rfl,Z⟩
theorem s_l6Draw_c {fu : Nat} {r_ : Rd} {m : Model} {g_0 : Nat} {v0_0 : Value} {v1_0 : Value} {v1_1 : Value} {H : FH} {w : World} (Z : Star H w [box g_0 117 #[v0_0,I r_.p]]) (h0_0 : (rS 5 RP.u8).rel H [v0_0] r_.b) (h1_0 : (rS 3 RP.int).rel H [v1_0] m.sizes) (h1_1 : (rS 49 (rRule 3 22)).rel H [v1_1] m.rules) {r : Rule × Int} (hF : s_l6Draw fu r_ m = some r) :
 C Tryz.prog 100 #[Pt g_0,.agg #[v1_0,v1_1]] w fun v w'=>∃ (u1 : Value) (u2 : Value) (u3 : Value),v = .agg #[I r.1.kind,u1,u2,I r.1.bound,u3]∧Star H w' [oF 3 RP.int u1 r.1.vars,oF 3 RP.int u2 r.1.coefs,own (OR.ownS 22 (OR.ownS 3 (OR.frz RP.int))) [u3] r.1.rows,box g_0 117 #[v0_0,I r.2]]:=by
 unfold s_l6Draw at hF
 refine C_enter Tryz.func100 rfl Tryz.ntmps100 rfl (sq (L_box (v:=.agg #[v1_0,v1_1]) (cs:=#[v1_0,v1_1]) rfl rfl rfl Z (fun g5 w6 Z=>L_al (cs:=#[I 0,S0,S0,I 0,S0]) rfl Tryz.zeroValue49 rfl Z (fun g7 w8 Z=>nq ?_))))
 obtain ⟨x18,hx18,hF⟩:=bind_some hF
 refine W_region (mV (Pt g_0) rfl (L_bs rfl (parts5 rfl rfl rfl rfl rfl) (bs_22_5_0_0_0_0_0 (I 1) (I 2) (I 3) (I 4) (I 1) rfl rfl rfl rfl rfl) Z (fun g23 w24 Z=>?_)))
 have Z:=litInts [1,2,3,4,1] 5 Z rfl rfl (by decide)
 have Z:=Z.get 3 rfl
 obtain ⟨H26b,l27,s28,z29,k30⟩:=Z.lend [_]
 have hb31 : (rS 3 RP.int).rel H26b [(Sl g23 5 5)] ([1,2,3,4,1]):=fz_own 0 z29 rfl
 refine L_call rfl Tryz.call64 (ops2 rfl rfl) (s_l17Rd_num_c (r_:=r_) (list:=[1,2,3,4,1]) s28 (RP.mono _ h0_0 l27) hb31 hx18) ?_
 rintro _ w32 ⟨rfl,Z⟩
 have Z:=k30 Z (cb c0)
 refine L_bld rfl (parts1 rfl) (bld_49_0 (I x18.1) rfl) (L_al (cs:=#[I 0,S0,S0,I 0,S0]) rfl Tryz.zeroValue49 rfl Z (fun g33 w34 Z=>L_staB (vs:=#[I x18.1,S0,S0,I 0,S0]) (cs2:=#[I x18.1,S0,S0,I 0,S0]) 0 rfl Tryz.sizeOf49 rfl rfl rfl (ones_cons rfl (ones_cons rfl (ones_cons rfl (ones_cons rfl (ones_cons rfl ones_nil))))) Z rfl (by show 0 + 5≤5; decide) rfl (fun w35 Z=>nq ?_)))
 obtain ⟨x41,hx41,hF⟩:=bind_some hF
 refine W_region (mV (Pt g_0) rfl (L_lda (cs:=[v1_0,v1_1]) rfl Tryz.isAgg25 Tryz.sizeOf25 rfl (At.sub0 (Blk.at (Star.blkAt 4 Z rfl)) 0 2) rfl ?_))
 have Z:=Z.get 1 rfl
 obtain ⟨H45b,l46,s47,z48,k49⟩:=Z.lend [_]
 refine L_call rfl Tryz.call136 (ops3 rfl rfl rfl) (s_l6Some_c (r_:=({ b:=r_.b,p:=x18.2 } : Rd)) (m:=m) (least:=1) s47 (RP.mono _ h0_0 l46) (RP.mono _ h1_0 l46) (RP.mono _ h1_1 l46) hx41) ?_
 rintro r50_0 w50 ⟨_,rfl,Z⟩
 have Z:=k49 Z (co closed_int (cb c0))
 refine fA 1 fa_49_1 rfl rfl (L_stB (v:=r50_0) (cs2:=#[I x18.1,r50_0,S0,I 0,S0]) 2 rfl Tryz.sizeOf22 rfl rfl (one_len (Star.len 0 Z rfl)) Z rfl rfl rfl (fun w52 Z=>nq (sq (fA 0 fa_49_0 rfl rfl (ldB 0 Z Tryz.isAgg3 rfl rfl rfl (nn (W_block (sq (L_eql rfl rfl rfl (aB rfl (nn ?_)))))))))))
 obtain ⟨⟨g_0_1_53,g33_1_54,g33_2_56,g33_3_58,g33_4_59⟩,hA63,hF⟩:=bind_some hF
 obtain ⟨R63,hR63⟩:=exR fun f w_=>∃ H61 : FH,∃ v54_g33_1 v56_g33_2 v59_g33_4 : Value,Le H H61∧f 4 = Pt g7∧f 5 = Pt g33∧Star H61 w_ ([box g_0 117 #[v0_0,I g_0_1_53],oF 3 RP.int v54_g33_1 g33_1_54,oF 3 RP.int v56_g33_2 g33_2_56,own (OR.ownS 22 (OR.ownS 3 (OR.frz RP.int))) [v59_g33_4] g33_4_59,box g33 49 #[I x18.1,v54_g33_1,v56_g33_2,I g33_3_58,v59_g33_4],box g7 49 #[I 0,S0,S0,I 0,S0]])
 refine W_join R63 ?_ ?_
 refine W_cond (b:=(x18.1 == 1)) rfl (fun hc64=>?_) (fun hc64=>?_)
 have hA63:=(ite_t hc64).symm.trans hA63
 refine W_seq (sq (aI rfl (nn ?_)))
 have hlen71 : List.length x41.1≤9223372036854775807:=len_le (Star.len 1 Z rfl)
 obtain ⟨j71,hL71,hA63⟩:=bind_some hA63
 obtain ⟨R71,hR71⟩:=exR fun f w_=>∃ g_0_1_66 : Int,∃ g33_2_67 : List Int,∃ H69 : FH,∃ v67_g33_2 : Value,j71 = .nx (g_0_1_66,g33_2_67)∧Le H H69∧f 0 = Pt g_0∧f 4 = Pt g7∧f 5 = Pt g33∧Star H69 w_ ([box g_0 117 #[v0_0,I g_0_1_66],oF 3 RP.int r50_0 x41.1,oF 3 RP.int v67_g33_2 g33_2_67,box g33 49 #[I x18.1,r50_0,v67_g33_2,I 0,S0],box g7 49 #[I 0,S0,S0,I 0,S0]])
 refine W_join R71 ?_ ?_
 refine W_block ?_
 obtain ⟨I71,hI71⟩:=exI fun n f w_=>∃ i_65 : Nat,∃ suf71 : List Int,∃ g_0_1_66 : Int,∃ g33_2_67 : List Int,∃ H69 : FH,∃ v67_g33_2 : Value,n = suf71.length∧List.drop i_65 x41.1 = suf71∧i_65 + suf71.length = x41.1.length∧rangeL (s_l6Draw_b1 r_) suf71 i_65 (g_0_1_66,g33_2_67) = some j71∧Le H H69∧f 0 = Pt g_0∧f 4 = Pt g7∧f 5 = Pt g33∧f 6 = I i_65∧Star H69 w_ ([box g_0 117 #[v0_0,I g_0_1_66],oF 3 RP.int r50_0 x41.1,oF 3 RP.int v67_g33_2 g33_2_67,box g33 49 #[I x18.1,r50_0,v67_g33_2,I 0,S0],box g7 49 #[I 0,S0,S0,I 0,S0]])
 have Z:=Star.addNil (R:=(OR.frz RP.int)) (e:=3) Z
 have Z:=Z.gets [5,2,2,3,4] rfl
 refine W_loop I71 (n:=x41.1.length) ?_ ?_
 exact ij hI71 ⟨0,x41.1,x41.2,[],H,S0,rfl,rfl,Nat.zero_add _,hL71,(Le.refl _),rfl,rfl,rfl,rfl,(Star.keepN 5 Z)⟩
 intro n71 f w_ hI
 obtain ⟨i_65,suf71,g_0_1_66,g33_2_67,H69,v67_g33_2,rfl,hd71,hl71,hL71,l70,sf0,sf4,sf5,sf6,Z⟩:=ik hI71 hI
 refine W_seq (sq (mF sf6 rfl (fA 1 fa_49_1 sf5 rfl (ldB 3 Z Tryz.isAgg22 rfl rfl rfl (L_len rfl Tryz.underlying22 rfl (Star.len 1 Z rfl) (L_lss rfl rfl rfl (nn (W_cond (b:=decide ((i_65 : Int) < (x41.1.length : Int))) rfl (fun hc73=>?_) (fun hc73=>?_)))))))))
 have hlt71:=of_decide_eq_true hc73
 rcases suf71 with _ | ⟨x_71,rest71⟩
 exact absurd hlt71 (by simp at hl71; omega)
 obtain ⟨o71,hB71,hL71⟩:=range_cons hL71
 rw [s_l6Draw_b1] at hB71
 have hix71:=drop_idx hd71
 refine W_skip (W_seq (W_block ?_))
 obtain ⟨x83,hx83,hB71⟩:=bind_some hB71
 obtain ⟨x88,hx88,hB71⟩:=bind_some hB71
 have Z:=Z.gets [4,4,4,4] rfl
 refine W_drawS 6 [isV (Pq g33 2),isV (v67_g33_2),isV (Pt g_0),anyF,isV (I x83.1),anyF] [oF 3 RP.int r50_0 x41.1,oF 3 RP.int v67_g33_2 g33_2_67,box g33 49 #[I x18.1,r50_0,v67_g33_2,I 0,S0],box g7 49 #[I 0,S0,S0,I 0,S0]] [.base (box g_0 117 #[v0_0,I g_0_1_66]) (some 4),.made 3 32 (fun v_=>oF 3 RP.int v_ ([1,(-1),2,1,(-2),3])) none,.made 4 33 (fun v_=>box g_0 117 #[v0_0,I x83.2]) none,.made 5 34 (fun v_=>oF 3 RP.int v_ ([x83.1])) none] ([]) [([],[]),([],[]),([],[]),([],[1]),([0,1],[1,2]),([],[3])] (S:=[(none,[],some 4),(some 3,[32],none),(some 4,[33],none),(some 5,[34],none)]) Tryz_mix (by kernel_rfl) rfl (by kernel_rfl) (amF_cons (mono_V _) (amF_cons (mono_V _) (amF_cons (mono_V _) (amF_cons (mono_any) (amF_cons (mono_V _) (amF_cons (mono_any) amF_nil)))))) Z ?_ (fun f w_ H93 hS93 hE93 hT93 Z=>?_)
 refine opsS_cons (fun f w_ _ _ s _ _ Z=>fA 2 fa_49_2 ((s 5 rfl).trans sf5) rfl (nO rfl rfl Z)) (opsS_cons (fun f w_ _ _ _ _ p Z=>ldB 2 Z Tryz.isAgg22 (p 0 29 rfl rfl) rfl rfl (nO rfl rfl Z)) (opsS_cons (fun f w_ _ _ s _ _ Z=>mF ((s 0 rfl).trans sf0) rfl (nO rfl rfl Z)) (opsS_cons ?_ ?_)))
 intro f w_ H93 X93 hS93 hE93 hP93 Z
 refine L_bs rfl (parts6 rfl rfl rfl rfl rfl rfl) (bs_22_6_0_0_0_0_0_0 (I 1) (I (-1)) (I 2) (I 1) (I (-2)) (I 3) rfl rfl rfl rfl rfl rfl) Z (fun g107 w108 Z=>?_)
 have Z:=litInts [1,(-1),2,1,(-2),3] 6 Z rfl rfl (by decide)
 have Z:=Z.gets [4,4,4,4] rfl
 exact L_nil ⟨rfl,_,_,rfl,Le.refl _,fun _ _=>trivial,Z⟩
 refine opsS_cons ?_ ?_
 intro f w_ H93 X93 hS93 hE93 hP93 Z
 have Z : Star H93 w_ (oF 3 RP.int r50_0 x41.1 :: oF 3 RP.int v67_g33_2 g33_2_67 :: box g33 49 #[I x18.1,r50_0,v67_g33_2,I 0,S0] :: box g7 49 #[I 0,S0,S0,I 0,S0] :: box g_0 117 #[v0_0,I g_0_1_66] :: oF 3 RP.int (f 32) ([1,(-1),2,1,(-2),3]) :: X93):=Z
 have Z:=Z.get 4 rfl
 obtain ⟨H111b,l112,s113,z114,k115⟩:=Z.lend [_]
 have hb116 : (rS 3 RP.int).rel H111b [(f 32)] ([1,(-1),2,1,(-2),3]):=fz_own 4 z114 rfl
 refine L_call rfl Tryz.call64 (ops2 (hP93 2 31 rfl rfl) rfl) (s_l17Rd_num_c (r_:=({ b:=r_.b,p:=g_0_1_66 } : Rd)) (list:=[1,(-1),2,1,(-2),3]) s113 (RP.mono _ h0_0 (Le.trans (Le.trans l70 hE93) l112)) hb116 hx83) ?_
 rintro _ w117 ⟨rfl,Z⟩
 have Z:=k115 Z (cb c0)
 have Z:=Z.gets [5,5,5,5,5] rfl
 exact L_nil ⟨rfl,_,_,rfl,Le.refl _,fun _ _=>rfl,Z⟩
 refine opsS_cons ?_ ?_
 intro f w_ H93 X93 hS93 hE93 hP93 Z
 refine L_bs rfl (parts1 (hP93 4 33 rfl rfl)) (bs_22_1_0 (I x83.1) rfl) Z (fun g118 w119 Z=>?_)
 have Z:=Star.addF (r:=RP.int) (cs:=[I x83.1]) (x:=x83.1) Z rfl
 have Z:=Star.mkRow (R:=(OR.frz RP.int)) [([I x83.1],x83.1)] [x83.1] 1 Z rfl rfl rfl (by decide)
 have Z:=Z.gets [4,4,4,4] rfl
 exact L_nil ⟨rfl,_,_,rfl,Le.refl _,fun _ _=>trivial,Z⟩
 exact opsS_nil
 have Z : Star H93 w_ ([oF 3 RP.int r50_0 x41.1,oF 3 RP.int v67_g33_2 g33_2_67,box g33 49 #[I x18.1,r50_0,v67_g33_2,I 0,S0],box g7 49 #[I 0,S0,S0,I 0,S0],oF 3 RP.int (f 32) ([1,(-1),2,1,(-2),3]),box g_0 117 #[v0_0,I x83.2],oF 3 RP.int (f 34) ([x83.1])]):=Z
 have Z:=Z.gets [6,2] rfl
 refine L_appM (v:=v67_g33_2) (u:=(f 34)) rfl et_22 (hT93 1 30 rfl rfl) rfl Z hx88 (fun v122 w123 Z=>fA 2 fa_49_2 ((hS93 5 rfl).trans sf5) rfl (L_stB (v:=v122) (cs2:=#[I x18.1,r50_0,v122,I 0,S0]) 2 rfl Tryz.sizeOf22 rfl rfl (one_len (Star.len 0 Z rfl)) Z rfl rfl rfl (fun w125 Z=>nn (W_region (mF ((hS93 6 rfl).trans sf6) rfl (L_add rfl rfl rfl (aI rfl (nn ?_))))))))
 obtain rfl:=so hB71
 have Z:=Z.gets [3,1,2,3,5] rfl
 show ∃ m,m < _∧I71 m _ _
 refine ⟨rest71.length,by simp,?_⟩
 exact ij hI71 ⟨i_65 + 1,rest71,x83.2,x88,H93,v122,rfl,drop_next hd71,by simp at hl71; omega,hL71,(Le.trans l70 hE93),((hS93 0 rfl).trans sf0),((hS93 4 rfl).trans sf4),((hS93 5 rfl).trans sf5),(Eq.trans rfl (congrArg (Value.int .i64) (i64_succ (n:=x41.1.length) (by simp at hl71; omega) hlen71))),(Star.keepN 5 Z)⟩
 rcases suf71 with _ | ⟨_,_⟩
 obtain rfl:=range_nil hL71
 refine W_exit (rj hR71 ⟨g_0_1_66,g33_2_67,H69,v67_g33_2,rfl,l70,sf0,sf4,sf5,Z⟩)
 exact absurd (of_decide_eq_false hc73) (by simp at hl71; omega)
 intro f w_ hR
 obtain ⟨g_0_1_66,g33_2_67,H69,v67_g33_2,rfl,l70,sf0,sf4,sf5,Z⟩:=rk hR71 hR
 obtain ⟨x135,hx135,hA63⟩:=bind_some hA63
 refine W_region (mF sf0 rfl (L_bs rfl (parts7 rfl rfl rfl rfl rfl rfl rfl) (bs_22_7_0_0_0_0_0_0_0 (I 1) (I 2) (I 0) (I (-1)) (I 3) (I (-3)) (I 4) rfl rfl rfl rfl rfl rfl rfl) Z (fun g138 w139 Z=>?_)))
 have Z:=litInts [1,2,0,(-1),3,(-3),4] 7 Z rfl rfl (by decide)
 have Z:=Z.get 1 rfl
 obtain ⟨H141b,l142,s143,z144,k145⟩:=Z.lend [_]
 have hb146 : (rS 3 RP.int).rel H141b [(Sl g138 7 7)] ([1,2,0,(-1),3,(-3),4]):=fz_own 0 z144 rfl
 refine L_call rfl Tryz.call64 (ops2 rfl rfl) (s_l17Rd_num_c (r_:=({ b:=r_.b,p:=g_0_1_66 } : Rd)) (list:=[1,2,0,(-1),3,(-3),4]) s143 (RP.mono _ h0_0 (Le.trans l70 l142)) hb146 hx135) ?_
 rintro _ w147 ⟨rfl,Z⟩
 have Z:=k145 Z (cb c0)
 refine fA 3 fa_49_3 sf5 rfl (L_stB (v:=I x135.1) (cs2:=#[I x18.1,r50_0,v67_g33_2,I x135.1,S0]) 4 rfl Tryz.sizeOf3 rfl rfl rfl Z rfl rfl rfl (fun w148 Z=>nn ?_))
 obtain ⟨rfl,rfl,rfl,rfl,rfl⟩:=so5 hA63
 have Z:=Star.addNil (R:=(OR.ownS 3 (OR.frz RP.int))) (e:=22) Z
 have Z:=Z.gets [6,2,2,6,6,5] rfl
 exact rj hR63 ⟨H69,r50_0,v67_g33_2,S0,l70,sf4,sf5,(Star.keepN 6 Z)⟩
 have hA63:=(ite_f hc64).symm.trans hA63
 refine sq (L_eql rfl rfl rfl (aB rfl (nn ?_)))
 obtain ⟨⟨g_0_1_150,g33_1_151,g33_4_153⟩,hA155,hA63⟩:=bind_some hA63
 obtain ⟨R155,hR155⟩:=exR fun f w_=>∃ v151_g33_1 v153_g33_4 : Value,f 4 = Pt g7∧f 5 = Pt g33∧Star H w_ ([box g_0 117 #[v0_0,I g_0_1_150],oF 3 RP.int v151_g33_1 g33_1_151,own (OR.ownS 22 (OR.ownS 3 (OR.frz RP.int))) [v153_g33_4] g33_4_153,box g33 49 #[I x18.1,v151_g33_1,S0,I 0,v153_g33_4],box g7 49 #[I 0,S0,S0,I 0,S0]])
 refine W_join R155 ?_ ?_
 refine W_cond (b:=(x18.1 == 3)) rfl (fun hc156=>?_) (fun hc156=>?_)
 have hA155:=(ite_t hc156).symm.trans hA155
 refine W_seq ?_
 obtain ⟨x166,hx166,hA155⟩:=bind_some hA155
 refine W_region (mV (Pt g_0) rfl (L_bs rfl (parts6 rfl rfl rfl rfl rfl rfl) (bs_22_6_0_0_0_0_0_0 (I 3) (I 4) (I 2) (I 6) (I 0) (I 8) rfl rfl rfl rfl rfl rfl) Z (fun g168 w169 Z=>?_)))
 have Z:=litInts [3,4,2,6,0,8] 6 Z rfl rfl (by decide)
 have Z:=Z.get 3 rfl
 obtain ⟨H171b,l172,s173,z174,k175⟩:=Z.lend [_]
 have hb176 : (rS 3 RP.int).rel H171b [(Sl g168 6 6)] ([3,4,2,6,0,8]):=fz_own 0 z174 rfl
 refine L_call rfl Tryz.call64 (ops2 rfl rfl) (s_l17Rd_num_c (r_:=({ b:=r_.b,p:=x41.2 } : Rd)) (list:=[3,4,2,6,0,8]) s173 (RP.mono _ h0_0 l172) hb176 hx166) ?_
 rintro _ w177 ⟨rfl,Z⟩
 have Z:=k175 Z (cb c0)
 refine aI rfl (nn ?_)
 obtain ⟨j183,hL183,hA155⟩:=bind_some hA155
 obtain ⟨R183,hR183⟩:=exR fun f w_=>∃ i_179 : Int,∃ g_0_1_180 : Int,∃ g33_4_181 : List (List Int),∃ v181_g33_4 : Value,j183 = .nx (i_179,g_0_1_180,g33_4_181)∧f 4 = Pt g7∧f 5 = Pt g33∧Star H w_ ([box g_0 117 #[v0_0,I g_0_1_180],oF 3 RP.int r50_0 x41.1,own (OR.ownS 22 (OR.ownS 3 (OR.frz RP.int))) [v181_g33_4] g33_4_181,box g33 49 #[I x18.1,r50_0,S0,I 0,v181_g33_4],box g7 49 #[I 0,S0,S0,I 0,S0]])
 refine W_join R183 ?_ ?_
 refine W_block ?_
 obtain ⟨I183,hI183⟩:=exI fun n f w_=>∃ i_179 : Int,∃ g_0_1_180 : Int,∃ g33_4_181 : List (List Int),∃ v181_g33_4 : Value,whileL (s_l6Draw_b2 r_ x41) n (i_179,g_0_1_180,g33_4_181) = some j183∧f 0 = Pt g_0∧f 4 = Pt g7∧f 5 = Pt g33∧f 7 = I i_179∧Star H w_ ([box g_0 117 #[v0_0,I g_0_1_180],oF 3 RP.int r50_0 x41.1,own (OR.ownS 22 (OR.ownS 3 (OR.frz RP.int))) [v181_g33_4] g33_4_181,box g33 49 #[I x18.1,r50_0,S0,I 0,v181_g33_4],box g7 49 #[I 0,S0,S0,I 0,S0]])
 have Z:=Star.addNil (R:=(OR.ownS 3 (OR.frz RP.int))) (e:=22) Z
 have Z:=Z.gets [6,4,2,5,4] rfl
 refine W_loop I183 (n:=fu) ?_ ?_
 exact ij hI183 ⟨x166.1,x166.2,[],S0,hL183,rfl,rfl,rfl,rfl,(Star.keepN 5 Z)⟩
 intro n183 f w_ hI
 obtain ⟨i_179,g_0_1_180,g33_4_181,v181_g33_4,hL183,sf0,sf4,sf5,sf7,Z⟩:=ik hI183 hI
 rcases n183 with _ | n183
 exact (while_zero hL183).elim
 obtain ⟨o183,hB183,hL183⟩:=while_succ hL183
 rw [s_l6Draw_b2] at hB183
 refine W_seq (sq (mF sf7 rfl (L_gtr rfl rfl rfl (nn (W_cond (b:=decide (i_179 > 0)) rfl (fun hc185=>?_) (fun hc185=>?_))))))
 have hB183:=(ite_t hc185).symm.trans hB183
 refine W_skip (W_seq (W_block (sq (L_bs rfl parts0 (bs_22_0  ) Z (fun g189 w190 Z=>?_)))))
 have Z:=Star.mkRow (R:=(OR.frz RP.int)) [] [] 0 Z rfl rfl rfl (by decide)
 refine aV (Sl g189 0 0) rfl (L_nil (W_seq (sq (aI rfl (nn ?_)))))
 have hlen196 : List.length x41.1≤9223372036854775807:=len_le (Star.len 2 Z rfl)
 obtain ⟨j196,hL196,hB183⟩:=bind_some hB183
 obtain ⟨R196,hR196⟩:=exR fun f w_=>∃ row_193 : List Int,∃ g_0_1_195 : Int,∃ v193_row : Value,j196 = .nx (row_193,g_0_1_195)∧f 0 = Pt g_0∧f 4 = Pt g7∧f 5 = Pt g33∧f 7 = I i_179∧f 8 = v193_row∧Star H w_ ([oF 3 RP.int v193_row row_193,box g_0 117 #[v0_0,I g_0_1_195],oF 3 RP.int r50_0 x41.1,own (OR.ownS 22 (OR.ownS 3 (OR.frz RP.int))) [v181_g33_4] g33_4_181,box g33 49 #[I x18.1,r50_0,S0,I 0,v181_g33_4],box g7 49 #[I 0,S0,S0,I 0,S0]])
 refine W_join R196 ?_ ?_
 refine W_block ?_
 obtain ⟨I196,hI196⟩:=exI fun n f w_=>∃ i_192 : Nat,∃ suf196 : List Int,∃ row_193 : List Int,∃ g_0_1_195 : Int,∃ v193_row : Value,n = suf196.length∧List.drop i_192 x41.1 = suf196∧i_192 + suf196.length = x41.1.length∧rangeL (s_l6Draw_b3 r_) suf196 i_192 (row_193,g_0_1_195) = some j196∧f 0 = Pt g_0∧f 4 = Pt g7∧f 5 = Pt g33∧f 7 = I i_179∧f 8 = v193_row∧f 9 = I i_192∧Star H w_ ([oF 3 RP.int v193_row row_193,box g_0 117 #[v0_0,I g_0_1_195],oF 3 RP.int r50_0 x41.1,own (OR.ownS 22 (OR.ownS 3 (OR.frz RP.int))) [v181_g33_4] g33_4_181,box g33 49 #[I x18.1,r50_0,S0,I 0,v181_g33_4],box g7 49 #[I 0,S0,S0,I 0,S0]])
 refine W_loop I196 (n:=x41.1.length) ?_ ?_
 exact ij hI196 ⟨0,x41.1,[],g_0_1_180,(Sl g189 0 0),rfl,rfl,Nat.zero_add _,hL196,sf0,sf4,sf5,sf7,rfl,rfl,Z⟩
 intro n196 f w_ hI
 obtain ⟨i_192,suf196,row_193,g_0_1_195,v193_row,rfl,hd196,hl196,hL196,sf0,sf4,sf5,sf7,sf8,sf9,Z⟩:=ik hI196 hI
 refine W_seq (sq (mF sf9 rfl (fA 1 fa_49_1 sf5 rfl (ldB 4 Z Tryz.isAgg22 rfl rfl rfl (L_len rfl Tryz.underlying22 rfl (Star.len 2 Z rfl) (L_lss rfl rfl rfl (nn (W_cond (b:=decide ((i_192 : Int) < (x41.1.length : Int))) rfl (fun hc197=>?_) (fun hc197=>?_)))))))))
 have hlt196:=of_decide_eq_true hc197
 rcases suf196 with _ | ⟨x_196,rest196⟩
 exact absurd hlt196 (by simp at hl196; omega)
 obtain ⟨o196,hB196,hL196⟩:=range_cons hL196
 rw [s_l6Draw_b3] at hB196
 have hix196:=drop_idx hd196
 refine W_skip (W_seq (W_block ?_))
 obtain ⟨x203,hx203,hB196⟩:=bind_some hB196
 obtain ⟨x208,hx208,hB196⟩:=bind_some hB196
 refine W_region (mF sf8 rfl (mF sf0 rfl ?_))
 have Z:=Z.get 1 rfl
 obtain ⟨H212b,l213,s214,z215,k216⟩:=Z.lend [_]
 refine L_call rfl Tryz.call63 (ops2 rfl rfl) (s_l17Rd_pick_c (r_:=({ b:=r_.b,p:=g_0_1_195 } : Rd)) (n_:=4) s214 (RP.mono _ h0_0 l213) hx203) ?_
 rintro _ w217 ⟨rfl,Z⟩
 have Z:=k216 Z (cb c0)
 refine L_bs rfl (parts1 rfl) (bs_22_1_0 (I x203.1) rfl) Z (fun g218 w219 Z=>?_)
 have Z:=Star.addF (r:=RP.int) (cs:=[I x203.1]) (x:=x203.1) Z rfl
 have Z:=Star.mkRow (R:=(OR.frz RP.int)) [([I x203.1],x203.1)] [x203.1] 1 Z rfl rfl rfl (by decide)
 have Z:=Z.get 2 rfl
 refine L_appM (v:=v193_row) (u:=(Sl g218 1 1)) rfl et_22 rfl rfl Z hx208 (fun v221 w222 Z=>aV v221 rfl (nn (W_region (mF sf9 rfl (L_add rfl rfl rfl (aI rfl (nn ?_)))))))
 obtain rfl:=so hB196
 show ∃ m,m < _∧I196 m _ _
 refine ⟨rest196.length,by simp,?_⟩
 exact ij hI196 ⟨i_192 + 1,rest196,x208,x203.2,v221,rfl,drop_next hd196,by simp at hl196; omega,hL196,sf0,sf4,sf5,sf7,rfl,(Eq.trans rfl (congrArg (Value.int .i64) (i64_succ (n:=x41.1.length) (by simp at hl196; omega) hlen196))),Z⟩
 rcases suf196 with _ | ⟨_,_⟩
 obtain rfl:=range_nil hL196
 refine W_exit (rj hR196 ⟨row_193,g_0_1_195,v193_row,rfl,sf0,sf4,sf5,sf7,sf8,Z⟩)
 exact absurd (of_decide_eq_false hc197) (by simp at hl196; omega)
 intro f w_ hR
 obtain ⟨row_193,g_0_1_195,v193_row,rfl,sf0,sf4,sf5,sf7,sf8,Z⟩:=rk hR196 hR
 obtain ⟨x227,hx227,hB183⟩:=bind_some hB183
 refine W_region (fA 4 fa_49_4 sf5 rfl (ldB 4 Z Tryz.isAgg47 rfl rfl rfl (mF sf8 rfl (L_bs rfl (parts1 rfl) (bs_47_1_0 (v193_row) (one_len (Star.len 0 Z rfl))) Z (fun g232 w233 Z=>?_)))))
 have Z:=Z.get 1 rfl
 have Z:=Star.mkRow (R:=(OR.ownS 3 (OR.frz RP.int))) [([v193_row],row_193)] [row_193] 1 Z rfl rfl rfl (by decide)
 have Z:=Z.get 3 rfl
 refine L_appM (v:=v181_g33_4) (u:=(Sl g232 1 1)) rfl et_47 rfl rfl Z hx227 (fun v235 w236 Z=>fA 4 fa_49_4 sf5 rfl (L_stB (v:=v235) (cs2:=#[I x18.1,r50_0,S0,I 0,v235]) 3 rfl Tryz.sizeOf47 rfl rfl (one_len (Star.len 0 Z rfl)) Z rfl rfl rfl (fun w238 Z=>nn (W_region (mF sf7 rfl (L_sub rfl rfl rfl (aI rfl (nn ?_))))))))
 obtain rfl:=so hB183
 have Z:=Z.gets [4,1,2,4,4] rfl
 show ∃ m,m < _∧I183 m _ _
 refine ⟨n183,Nat.lt_succ_self _,?_⟩
 exact ij hI183 ⟨i64 (i_179 - 1),g_0_1_195,x227,v235,hL183,sf0,sf4,sf5,rfl,Z⟩
 have hB183:=(ite_f hc185).symm.trans hB183
 refine W_exit ?_
 obtain rfl:=so hB183
 obtain rfl:=so hL183
 exact rj hR183 ⟨i_179,g_0_1_180,g33_4_181,v181_g33_4,rfl,sf4,sf5,Z⟩
 intro f w_ hR
 obtain ⟨i_179,g_0_1_180,g33_4_181,v181_g33_4,rfl,sf4,sf5,Z⟩:=rk hR183 hR
 obtain ⟨rfl,rfl,rfl⟩:=so3 hA155
 exact rj hR155 ⟨r50_0,v181_g33_4,sf4,sf5,Z⟩
 have hA155:=(ite_f hc156).symm.trans hA155
 refine sq (L_eql rfl rfl rfl (aB rfl (nn ?_)))
 obtain ⟨⟨g_0_1_239,g33_1_240⟩,hA242,hA155⟩:=bind_some hA155
 obtain ⟨R242,hR242⟩:=exR fun f w_=>∃ v240_g33_1 : Value,f 4 = Pt g7∧f 5 = Pt g33∧Star H w_ ([box g_0 117 #[v0_0,I g_0_1_239],oF 3 RP.int v240_g33_1 g33_1_240,box g33 49 #[I x18.1,v240_g33_1,S0,I 0,S0],box g7 49 #[I 0,S0,S0,I 0,S0]])
 refine W_join R242 ?_ ?_
 refine W_cond (b:=(x18.1 == 4)) rfl (fun hc243=>?_) (fun hc243=>?_)
 have hA242:=(ite_t hc243).symm.trans hA242
 obtain ⟨x249,hx249,hA242⟩:=bind_some hA242
 obtain ⟨x252,hx252,hA242⟩:=bind_some hA242
 refine W_region (mV (Pt g_0) rfl (L_lda (cs:=[v1_0,v1_1]) rfl Tryz.isAgg25 Tryz.sizeOf25 rfl (At.sub0 (Blk.at (Star.blkAt 5 Z rfl)) 0 2) rfl ?_))
 have Z:=Z.get 2 rfl
 obtain ⟨H256b,l257,s258,z259,k260⟩:=Z.lend [_]
 refine L_call rfl Tryz.call136 (ops3 rfl rfl rfl) (s_l6Some_c (r_:=({ b:=r_.b,p:=x41.2 } : Rd)) (m:=m) (least:=2) s258 (RP.mono _ h0_0 l257) (RP.mono _ h1_0 l257) (RP.mono _ h1_1 l257) hx249) ?_
 rintro r261_0 w261 ⟨_,rfl,Z⟩
 have Z:=k260 Z (co closed_int (cb c0))
 refine L_slO (R:=(OR.frz RP.int)) (b:=2) rfl et_22 rfl Z trivial rfl hx252 (fun v263 Z=>fA 1 fa_49_1 rfl rfl (L_stB (v:=v263) (cs2:=#[I x18.1,v263,S0,I 0,S0]) 2 rfl Tryz.sizeOf22 rfl rfl (one_len (Star.len 0 Z rfl)) Z rfl rfl rfl (fun w265 Z=>nn ?_)))
 obtain ⟨rfl,rfl⟩:=so2 hA242
 have Z:=Z.gets [5,1,2,3] rfl
 exact rj hR242 ⟨v263,rfl,rfl,(Star.keepN 4 Z)⟩
 have hA242:=(ite_f hc243).symm.trans hA242
 refine W_skip ?_
 obtain ⟨rfl,rfl⟩:=so2 hA242
 have Z:=Z.gets [4,1,2,3] rfl
 exact rj hR242 ⟨r50_0,rfl,rfl,(Star.keepN 4 Z)⟩
 intro f w_ hR
 obtain ⟨v240_g33_1,sf4,sf5,Z⟩:=rk hR242 hR
 obtain ⟨rfl,rfl,rfl⟩:=so3 hA155
 have Z:=Star.addNil (R:=(OR.ownS 3 (OR.frz RP.int))) (e:=22) Z
 have Z:=Z.gets [4,4,2,4,4] rfl
 exact rj hR155 ⟨v240_g33_1,S0,sf4,sf5,Z⟩
 intro f w_ hR
 obtain ⟨v151_g33_1,v153_g33_4,sf4,sf5,Z⟩:=rk hR155 hR
 obtain ⟨rfl,rfl,rfl,rfl,rfl⟩:=so5 hA63
 have Z:=Star.addNil (R:=(OR.frz RP.int)) (e:=3) Z
 have Z:=Z.gets [5,5,5,3,5,5] rfl
 exact rj hR63 ⟨H,v151_g33_1,S0,v153_g33_4,(Le.refl _),sf4,sf5,Z⟩
 intro f w_ hR
 obtain ⟨H61,v54_g33_1,v56_g33_2,v59_g33_4,l62,sf4,sf5,Z⟩:=rk hR63 hR
 refine sq (L_lda (cs:=[I x18.1,v54_g33_1,v56_g33_2,I g33_3_58,v59_g33_4]) rfl Tryz.isAgg49 Tryz.sizeOf49 sf5 (At.sub0 (Blk.at (Star.blkAt 4 Z rfl)) 0 5) rfl (L_staB (vs:=#[I x18.1,v54_g33_1,v56_g33_2,I g33_3_58,v59_g33_4]) (cs2:=#[I x18.1,v54_g33_1,v56_g33_2,I g33_3_58,v59_g33_4]) 5 rfl Tryz.sizeOf49 sf4 rfl rfl (ones_cons rfl (ones_cons (one_len (Star.len 1 Z rfl)) (ones_cons (one_len (Star.len 2 Z rfl)) (ones_cons rfl (ones_cons (one_len (Star.len 3 Z rfl)) ones_nil))))) Z rfl (by show 0 + 5≤5; decide) rfl (fun w269 Z=>nn (W_ret (retG1 (v1:=.agg #[I x18.1,v54_g33_1,v56_g33_2,I g33_3_58,v59_g33_4]) Tryz.results100 (resV_agg Tryz.isAgg49 Tryz.sizeOf49 sf4 (Star.blkAt 0 Z rfl) rfl) ?_)))))
 obtain rfl:=so hF
 have Z:=Z.gets [1,4,4,4] rfl
 exact ⟨v54_g33_1,v56_g33_2,v59_g33_4,rfl,(Star.down (Star.keepN 4 Z) l62 (co closed_int (co closed_int (cc (closed_own (OR.closed_ownS (OR.closed_ownS closed_int)) _ _) (cb c0)))))⟩
theorem s_l6Model_c {fu : Nat} {r_ : Rd} {g_0 : Nat} {v0_0 : Value} {H : FH} {w : World} {R : List Ass} (Z : Star H w (box g_0 117 #[v0_0,I r_.p] :: R)) (h0_0 : (rS 5 RP.u8).rel H [v0_0] r_.b) {r : Model × Int} (hF : s_l6Model fu r_ = some r) :
 C Tryz.prog 56 #[Pt g_0] w fun v w'=>∃ H' : FH,Le H H'∧∃ (u1 : Value) (u2 : Value),v = .agg #[u1,u2]∧(rS 3 RP.int).rel H' [u1] r.1.sizes∧Star H' w' (oS 49 (oRule 3 22) u2 r.1.rules :: box g_0 117 #[v0_0,I r.2] :: R):=by
 unfold s_l6Model at hF
 refine C_enter Tryz.func56 rfl Tryz.ntmps56 rfl (sq (L_al (cs:=#[S0,S0]) rfl Tryz.zeroValue25 rfl Z (fun g3 w4 Z=>ns (L_bld rfl (parts0 ) (bld_25_  ) (L_al (cs:=#[S0,S0]) rfl Tryz.zeroValue25 rfl Z (fun g8 w9 Z=>L_staB (vs:=#[S0,S0]) (cs2:=#[S0,S0]) 0 rfl Tryz.sizeOf25 rfl rfl rfl (ones_cons rfl (ones_cons rfl ones_nil)) Z rfl (by show 0 + 2≤2; decide) rfl (fun w10 Z=>nq (W_seq ?_))))))))
 obtain ⟨x20,hx20,hF⟩:=bind_some hF
 refine W_region (mV (Pt g_0) rfl (L_bs rfl (parts4 rfl rfl rfl rfl) (bs_22_4_0_0_0_0 (I 3) (I 2) (I 4) (I 3) rfl rfl rfl rfl) Z (fun g22 w23 Z=>?_)))
 have Z:=litInts [3,2,4,3] 4 Z rfl rfl (by decide)
 have Z:=Z.get 3 rfl
 obtain ⟨H25b,l26,s27,z28,k29⟩:=Z.lend [_]
 have hb30 : (rS 3 RP.int).rel H25b [(Sl g22 4 4)] ([3,2,4,3]):=fz_own 0 z28 rfl
 refine L_call rfl Tryz.call64 (ops2 rfl rfl) (s_l17Rd_num_c (r_:=r_) (list:=[3,2,4,3]) s27 (RP.mono _ h0_0 l26) hb30 hx20) ?_
 rintro _ w31 ⟨rfl,Z⟩
 have Z:=k29 Z (cb c0)
 refine aI rfl (nn ?_)
 obtain ⟨j39,hL39,hF⟩:=bind_some hF
 obtain ⟨R39,hR39⟩:=exR fun f w_=>∃ i_33 : Int,∃ g_0_1_34 : Int,∃ g8_0_35 : List Int,∃ H37 : FH,∃ v35_g8_0 : Value,j39 = .nx (i_33,g_0_1_34,g8_0_35)∧Le H H37∧f 0 = Pt g_0∧f 2 = Pt g3∧f 3 = Pt g8∧Star H37 w_ (box g_0 117 #[v0_0,I g_0_1_34] :: oF 3 RP.int v35_g8_0 g8_0_35 :: box g8 25 #[v35_g8_0,S0] :: box g3 25 #[S0,S0] :: R)
 refine W_join R39 ?_ ?_
 refine W_block ?_
 obtain ⟨I39,hI39⟩:=exI fun n f w_=>∃ i_33 : Int,∃ g_0_1_34 : Int,∃ g8_0_35 : List Int,∃ H37 : FH,∃ v35_g8_0 : Value,whileL (s_l6Model_b1 r_) n (i_33,g_0_1_34,g8_0_35) = some j39∧Le H H37∧f 0 = Pt g_0∧f 2 = Pt g3∧f 3 = Pt g8∧f 4 = I i_33∧Star H37 w_ (box g_0 117 #[v0_0,I g_0_1_34] :: oF 3 RP.int v35_g8_0 g8_0_35 :: box g8 25 #[v35_g8_0,S0] :: box g3 25 #[S0,S0] :: R)
 have Z:=Star.addNil (R:=(OR.frz RP.int)) (e:=3) Z
 have Z:=Z.gets [4,4,2,3] rfl
 have Z:=Star.drop 4 Z rfl
 refine W_loop I39 (n:=fu) ?_ ?_
 exact ij hI39 ⟨x20.1,x20.2,[],H,S0,hL39,(Le.refl _),rfl,rfl,rfl,rfl,Z⟩
 intro n39 f w_ hI
 obtain ⟨i_33,g_0_1_34,g8_0_35,H37,v35_g8_0,hL39,l38,sf0,sf2,sf3,sf4,Z⟩:=ik hI39 hI
 rcases n39 with _ | n39
 exact (while_zero hL39).elim
 obtain ⟨o39,hB39,hL39⟩:=while_succ hL39
 rw [s_l6Model_b1] at hB39
 refine W_seq (sq (mF sf4 rfl (L_gtr rfl rfl rfl (nn (W_cond (b:=decide (i_33 > 0)) rfl (fun hc41=>?_) (fun hc41=>?_))))))
 have hB39:=(ite_t hc41).symm.trans hB39
 refine W_skip (W_seq (W_block ?_))
 obtain ⟨x51,hx51,hB39⟩:=bind_some hB39
 obtain ⟨x56,hx56,hB39⟩:=bind_some hB39
 have Z:=Z.gets [3,3,3] rfl
 refine W_drawS 6 [isV (Pt g8),isV (v35_g8_0),isV (Pt g_0),anyF,isV (I x51.1),anyF] [oF 3 RP.int v35_g8_0 g8_0_35,box g8 25 #[v35_g8_0,S0],box g3 25 #[S0,S0]] [.base (box g_0 117 #[v0_0,I g_0_1_34]) (some 4),.made 3 19 (fun v_=>oF 3 RP.int v_ ([2,1,3,2,0])) none,.made 4 20 (fun v_=>box g_0 117 #[v0_0,I x51.2]) none,.made 5 21 (fun v_=>oF 3 RP.int v_ ([x51.1])) none] (R) [([],[]),([],[]),([],[]),([],[1]),([0,1],[1,2]),([],[3])] (S:=[(none,[],some 4),(some 3,[19],none),(some 4,[20],none),(some 5,[21],none)]) Tryz_mix (by kernel_rfl) rfl (by kernel_rfl) (amF_cons (mono_V _) (amF_cons (mono_V _) (amF_cons (mono_V _) (amF_cons (mono_any) (amF_cons (mono_V _) (amF_cons (mono_any) amF_nil)))))) Z ?_ (fun f w_ H61 hS61 hE61 hT61 Z=>?_)
 refine opsS_cons (fun f w_ _ _ s _ _ Z=>fA 0 fa_25_0 ((s 3 rfl).trans sf3) rfl (nO rfl rfl Z)) (opsS_cons (fun f w_ _ _ _ _ p Z=>ldB 1 Z Tryz.isAgg22 (p 0 16 rfl rfl) rfl rfl (nO rfl rfl Z)) (opsS_cons (fun f w_ _ _ s _ _ Z=>mF ((s 0 rfl).trans sf0) rfl (nO rfl rfl Z)) (opsS_cons ?_ ?_)))
 intro f w_ H61 X61 hS61 hE61 hP61 Z
 refine L_bs rfl (parts5 rfl rfl rfl rfl rfl) (bs_22_5_0_0_0_0_0 (I 2) (I 1) (I 3) (I 2) (I 0) rfl rfl rfl rfl rfl) Z (fun g75 w76 Z=>?_)
 have Z:=litInts [2,1,3,2,0] 5 Z rfl rfl (by decide)
 have Z:=Z.gets [3,3,3] rfl
 exact L_nil ⟨rfl,_,_,rfl,Le.refl _,fun _ _=>trivial,Z⟩
 refine opsS_cons ?_ ?_
 intro f w_ H61 X61 hS61 hE61 hP61 Z
 have Z : Star H61 w_ (oF 3 RP.int v35_g8_0 g8_0_35 :: box g8 25 #[v35_g8_0,S0] :: box g3 25 #[S0,S0] :: box g_0 117 #[v0_0,I g_0_1_34] :: oF 3 RP.int (f 19) ([2,1,3,2,0]) :: X61):=Z
 have Z:=Z.get 3 rfl
 obtain ⟨H79b,l80,s81,z82,k83⟩:=Z.lend [_]
 have hb84 : (rS 3 RP.int).rel H79b [(f 19)] ([2,1,3,2,0]):=fz_own 3 z82 rfl
 refine L_call rfl Tryz.call64 (ops2 (hP61 2 18 rfl rfl) rfl) (s_l17Rd_num_c (r_:=({ b:=r_.b,p:=g_0_1_34 } : Rd)) (list:=[2,1,3,2,0]) s81 (RP.mono _ h0_0 (Le.trans (Le.trans l38 hE61) l80)) hb84 hx51) ?_
 rintro _ w85 ⟨rfl,Z⟩
 have Z:=k83 Z (cb c0)
 have Z:=Z.gets [4,4,4,4] rfl
 exact L_nil ⟨rfl,_,_,rfl,Le.refl _,fun _ _=>rfl,Z⟩
 refine opsS_cons ?_ ?_
 intro f w_ H61 X61 hS61 hE61 hP61 Z
 refine L_bs rfl (parts1 (hP61 4 20 rfl rfl)) (bs_22_1_0 (I x51.1) rfl) Z (fun g86 w87 Z=>?_)
 have Z:=Star.addF (r:=RP.int) (cs:=[I x51.1]) (x:=x51.1) Z rfl
 have Z:=Star.mkRow (R:=(OR.frz RP.int)) [([I x51.1],x51.1)] [x51.1] 1 Z rfl rfl rfl (by decide)
 have Z:=Z.gets [3,3,3] rfl
 exact L_nil ⟨rfl,_,_,rfl,Le.refl _,fun _ _=>trivial,Z⟩
 exact opsS_nil
 have Z : Star H61 w_ (oF 3 RP.int v35_g8_0 g8_0_35 :: box g8 25 #[v35_g8_0,S0] :: box g3 25 #[S0,S0] :: oF 3 RP.int (f 19) ([2,1,3,2,0]) :: box g_0 117 #[v0_0,I x51.2] :: oF 3 RP.int (f 21) ([x51.1]) :: R):=Z
 have Z:=Z.gets [5,1] rfl
 refine L_appM (v:=v35_g8_0) (u:=(f 21)) rfl et_22 (hT61 1 17 rfl rfl) rfl Z hx56 (fun v90 w91 Z=>fA 0 fa_25_0 ((hS61 3 rfl).trans sf3) rfl (L_stB (v:=v90) (cs2:=#[v90,S0]) 1 rfl Tryz.sizeOf22 rfl rfl (one_len (Star.len 0 Z rfl)) Z rfl rfl rfl (fun w93 Z=>nn (W_region (mF ((hS61 4 rfl).trans sf4) rfl (L_sub rfl rfl rfl (aI rfl (nn ?_))))))))
 obtain rfl:=so hB39
 have Z:=Z.gets [2,1,2,4] rfl
 have Z:=Star.drop 4 Z rfl
 show ∃ m,m < _∧I39 m _ _
 refine ⟨n39,Nat.lt_succ_self _,?_⟩
 exact ij hI39 ⟨i64 (i_33 - 1),x51.2,x56,H61,v90,hL39,(Le.trans l38 hE61),((hS61 0 rfl).trans sf0),((hS61 2 rfl).trans sf2),((hS61 3 rfl).trans sf3),rfl,Z⟩
 have hB39:=(ite_f hc41).symm.trans hB39
 refine W_exit ?_
 obtain rfl:=so hB39
 obtain rfl:=so hL39
 exact rj hR39 ⟨i_33,g_0_1_34,g8_0_35,H37,v35_g8_0,rfl,l38,sf0,sf2,sf3,Z⟩
 intro f w_ hR
 obtain ⟨i_33,g_0_1_34,g8_0_35,H37,v35_g8_0,rfl,l38,sf0,sf2,sf3,Z⟩:=rk hR39 hR
 refine W_seq (sq (aI rfl (nn ?_)))
 obtain ⟨j100,hL100,hF⟩:=bind_some hF
 obtain ⟨R100,hR100⟩:=exR fun f w_=>∃ n_95 : Int,∃ g8_0_96 : List Int,∃ H98 : FH,∃ v96_g8_0 : Value,j100 = .nx (n_95,g8_0_96)∧Le H37 H98∧f 0 = Pt g_0∧f 2 = Pt g3∧f 3 = Pt g8∧(rS 3 RP.int).rel H98 [v96_g8_0] g8_0_96∧Star H98 w_ (box g_0 117 #[v0_0,I g_0_1_34] :: box g8 25 #[v96_g8_0,S0] :: box g3 25 #[S0,S0] :: R)
 refine W_join R100 ?_ ?_
 refine W_block ?_
 obtain ⟨I100,hI100⟩:=exI fun n f w_=>∃ n_95 : Int,∃ g8_0_96 : List Int,∃ H98 : FH,∃ v96_g8_0 : Value,whileL s_l6Model_b2 n (n_95,g8_0_96) = some j100∧Le H37 H98∧f 0 = Pt g_0∧f 2 = Pt g3∧f 3 = Pt g8∧f 5 = I n_95∧(rS 3 RP.int).rel H98 [v96_g8_0] g8_0_96∧Star H98 w_ (box g_0 117 #[v0_0,I g_0_1_34] :: box g8 25 #[v96_g8_0,S0] :: box g3 25 #[S0,S0] :: R)
 have Z:=Z.get 1 rfl
 obtain ⟨H101,l102,Z,hz103⟩:=Star.freeze Z
 have hz103 : (rS 3 RP.int).rel H101 [v35_g8_0] g8_0_35:=hz103
 refine W_loop I100 (n:=fu) ?_ ?_
 exact ij hI100 ⟨0,g8_0_35,H101,v35_g8_0,hL100,l102,sf0,sf2,sf3,rfl,hz103,Z⟩
 intro n100 f w_ hI
 obtain ⟨n_95,g8_0_96,H98,v96_g8_0,hL100,l99,sf0,sf2,sf3,sf5,hv97_g8_0,Z⟩:=ik hI100 hI
 rcases n100 with _ | n100
 exact (while_zero hL100).elim
 obtain ⟨o100,hB100,hL100⟩:=while_succ hL100
 rw [s_l6Model_b2] at hB100
 refine W_seq (sq (mF sf5 rfl (L_eql rfl rfl rfl (nn (W_cond (b:=(n_95 == 0)) rfl (fun hc104=>?_) (fun hc104=>?_))))))
 have hB100:=(ite_t hc104).symm.trans hB100
 refine W_skip (W_block (W_seq (sq (aI rfl (nn ?_)))))
 have hlen107 : List.length g8_0_96≤9223372036854775807:=len_le (slice_len hv97_g8_0)
 obtain ⟨j107,hL107,hB100⟩:=bind_some hB100
 obtain ⟨R107,hR107⟩:=exR fun f w_=>∃ n_106 : Int,j107 = .nx n_106∧f 0 = Pt g_0∧f 2 = Pt g3∧f 3 = Pt g8∧f 5 = I n_106∧Star H98 w_ (box g_0 117 #[v0_0,I g_0_1_34] :: box g8 25 #[v96_g8_0,S0] :: box g3 25 #[S0,S0] :: R)
 refine W_join R107 ?_ ?_
 refine W_block ?_
 obtain ⟨I107,hI107⟩:=exI fun n f w_=>∃ i_105 : Nat,∃ suf107 : List Int,∃ n_106 : Int,n = suf107.length∧List.drop i_105 g8_0_96 = suf107∧i_105 + suf107.length = g8_0_96.length∧rangeL s_l6Model_b3 suf107 i_105 n_106 = some j107∧f 0 = Pt g_0∧f 2 = Pt g3∧f 3 = Pt g8∧f 5 = I n_106∧f 6 = I i_105∧Star H98 w_ (box g_0 117 #[v0_0,I g_0_1_34] :: box g8 25 #[v96_g8_0,S0] :: box g3 25 #[S0,S0] :: R)
 refine W_loop I107 (n:=g8_0_96.length) ?_ ?_
 exact ij hI107 ⟨0,g8_0_96,n_95,rfl,rfl,Nat.zero_add _,hL107,sf0,sf2,sf3,sf5,rfl,Z⟩
 intro n107 f w_ hI
 obtain ⟨i_105,suf107,n_106,rfl,hd107,hl107,hL107,sf0,sf2,sf3,sf5,sf6,Z⟩:=ik hI107 hI
 refine W_seq (sq (mF sf6 rfl (fA 0 fa_25_0 sf3 rfl (ldB 1 Z Tryz.isAgg22 rfl rfl rfl (L_len rfl Tryz.underlying22 rfl (slice_len hv97_g8_0) (L_lss rfl rfl rfl (nn (W_cond (b:=decide ((i_105 : Int) < (g8_0_96.length : Int))) rfl (fun hc108=>?_) (fun hc108=>?_)))))))))
 have hlt107:=of_decide_eq_true hc108
 rcases suf107 with _ | ⟨x_107,rest107⟩
 exact absurd hlt107 (by simp at hl107; omega)
 obtain ⟨o107,hB107,hL107⟩:=range_cons hL107
 rw [s_l6Model_b3] at hB107
 have hix107:=drop_idx hd107
 refine W_skip (W_seq (W_block (W_region (mF sf5 rfl (fA 0 fa_25_0 sf3 rfl (ldB 1 Z Tryz.isAgg22 rfl rfl rfl (mF sf6 rfl (L_ix (r:=RP.int) rfl Tryz.underlying22 Tryz.sizeOf3 rfl hv97_g8_0 rfl hix107 (fun g113 o114 cs_g113 hrk_hat115 hat115=>?_)))))))))
 obtain rfl : _ = [_]:=hrk_hat115
 refine L_ld rfl Tryz.isAgg3 rfl (At.cell (AtH.at hat115 Z.sub) (j:=0) rfl) (L_add rfl rfl rfl (L_add rfl rfl rfl (aI rfl (nn (W_region (mF sf6 rfl (L_add rfl rfl rfl (aI rfl (nn ?_)))))))))
 obtain rfl:=so hB107
 show ∃ m,m < _∧I107 m _ _
 refine ⟨rest107.length,by simp,?_⟩
 exact ij hI107 ⟨i_105 + 1,rest107,i64 ((i64 (n_106 + x_107)) + 1),rfl,drop_next hd107,by simp at hl107; omega,hL107,sf0,sf2,sf3,rfl,(Eq.trans rfl (congrArg (Value.int .i64) (i64_succ (n:=g8_0_96.length) (by simp at hl107; omega) hlen107))),Z⟩
 rcases suf107 with _ | ⟨_,_⟩
 obtain rfl:=range_nil hL107
 refine W_exit (rj hR107 ⟨n_106,rfl,sf0,sf2,sf3,sf5,Z⟩)
 exact absurd (of_decide_eq_false hc108) (by simp at hl107; omega)
 intro f w_ hR
 obtain ⟨n_106,rfl,sf0,sf2,sf3,sf5,Z⟩:=rk hR107 hR
 refine sq (mF sf5 rfl (L_gtr rfl rfl rfl (nn ?_)))
 obtain ⟨⟨n_117,g8_0_118⟩,hA120,hB100⟩:=bind_some hB100
 obtain ⟨R120,hR120⟩:=exR fun f w_=>∃ v118_g8_0 : Value,f 0 = Pt g_0∧f 2 = Pt g3∧f 3 = Pt g8∧f 5 = I n_117∧(rS 3 RP.int).rel H98 [v118_g8_0] g8_0_118∧Star H98 w_ (box g_0 117 #[v0_0,I g_0_1_34] :: box g8 25 #[v118_g8_0,S0] :: box g3 25 #[S0,S0] :: R)
 refine W_join R120 ?_ ?_
 refine W_cond (b:=decide (n_106 > 12)) rfl (fun hc121=>?_) (fun hc121=>?_)
 have hA120:=(ite_t hc121).symm.trans hA120
 refine W_seq ?_
 obtain ⟨x122,hx122,hA120⟩:=bind_some hA120
 refine W_region (fA 0 fa_25_0 sf3 rfl (ldB 1 Z Tryz.isAgg22 rfl rfl rfl (fA 0 fa_25_0 sf3 rfl (ldB 1 Z Tryz.isAgg22 rfl rfl rfl (L_len rfl Tryz.underlying22 rfl (slice_len hv97_g8_0) (L_sub rfl rfl rfl (L_sl (a:=0) (b:=i64 ((g8_0_96.length : Int) - 1)) rfl et_22 rfl hv97_g8_0 rfl rfl hx122 (fun v126 hs127=>fA 0 fa_25_0 sf3 rfl (L_stB (v:=v126) (cs2:=#[v126,S0]) 1 rfl Tryz.sizeOf22 rfl rfl (one_len (slice_len hs127)) Z rfl rfl rfl (fun w128 Z=>nn (W_region (aI rfl (nn ?_)))))))))))))
 obtain ⟨rfl,rfl⟩:=so2 hA120
 have Z:=Z.gets [2,1,2] rfl
 exact rj hR120 ⟨v126,sf0,sf2,sf3,rfl,hs127,Z⟩
 have hA120:=(ite_f hc121).symm.trans hA120
 refine W_skip ?_
 obtain ⟨rfl,rfl⟩:=so2 hA120
 exact rj hR120 ⟨v96_g8_0,sf0,sf2,sf3,sf5,hv97_g8_0,Z⟩
 intro f w_ hR
 obtain ⟨v118_g8_0,sf0,sf2,sf3,sf5,hv119_g8_0,Z⟩:=rk hR120 hR
 obtain rfl:=so hB100
 show ∃ m,m < _∧I100 m _ _
 refine ⟨n100,Nat.lt_succ_self _,?_⟩
 exact ij hI100 ⟨n_117,g8_0_118,H98,v118_g8_0,hL100,l99,sf0,sf2,sf3,sf5,hv119_g8_0,Z⟩
 have hB100:=(ite_f hc104).symm.trans hB100
 refine W_exit ?_
 obtain rfl:=so hB100
 obtain rfl:=so hL100
 exact rj hR100 ⟨n_95,g8_0_96,H98,v96_g8_0,rfl,l99,sf0,sf2,sf3,hv97_g8_0,Z⟩
 intro f w_ hR
 obtain ⟨n_95,g8_0_96,H98,v96_g8_0,rfl,l99,sf0,sf2,sf3,hv97_g8_0,Z⟩:=rk hR100 hR
 refine W_seq (W_seq ?_)
 obtain ⟨x138,hx138,hF⟩:=bind_some hF
 refine W_region (mF sf0 rfl (L_bs rfl (parts5 rfl rfl rfl rfl rfl) (bs_22_5_0_0_0_0_0 (I 2) (I 3) (I 1) (I 4) (I 0) rfl rfl rfl rfl rfl) Z (fun g140 w141 Z=>?_)))
 have Z:=litInts [2,3,1,4,0] 5 Z rfl rfl (by decide)
 have Z:=Z.get 1 rfl
 obtain ⟨H143b,l144,s145,z146,k147⟩:=Z.lend [_]
 have hb148 : (rS 3 RP.int).rel H143b [(Sl g140 5 5)] ([2,3,1,4,0]):=fz_own 0 z146 rfl
 refine L_call rfl Tryz.call64 (ops2 rfl rfl) (s_l17Rd_num_c (r_:=({ b:=r_.b,p:=g_0_1_34 } : Rd)) (list:=[2,3,1,4,0]) s145 (RP.mono _ h0_0 (Le.trans (Le.trans l38 l99) l144)) hb148 hx138) ?_
 rintro _ w149 ⟨rfl,Z⟩
 have Z:=k147 Z (cb c0)
 refine aI rfl (nn ?_)
 obtain ⟨j157,hL157,hF⟩:=bind_some hF
 obtain ⟨R157,hR157⟩:=exR fun f w_=>∃ i_151 : Int,∃ g_0_1_152 : Int,∃ g8_1_153 : List Rule,∃ H155 : FH,∃ v153_g8_1 : Value,j157 = .nx (i_151,g_0_1_152,g8_1_153)∧Le H98 H155∧f 2 = Pt g3∧f 3 = Pt g8∧Star H155 w_ (box g_0 117 #[v0_0,I g_0_1_152] :: oS 49 (oRule 3 22) v153_g8_1 g8_1_153 :: box g8 25 #[v96_g8_0,v153_g8_1] :: box g3 25 #[S0,S0] :: R)
 refine W_join R157 ?_ ?_
 refine W_block ?_
 obtain ⟨I157,hI157⟩:=exI fun n f w_=>∃ i_151 : Int,∃ g_0_1_152 : Int,∃ g8_1_153 : List Rule,∃ H155 : FH,∃ v153_g8_1 : Value,whileL (s_l6Model_b4 fu r_ g8_0_96) n (i_151,g_0_1_152,g8_1_153) = some j157∧Le H98 H155∧f 0 = Pt g_0∧f 2 = Pt g3∧f 3 = Pt g8∧f 7 = I i_151∧Star H155 w_ (box g_0 117 #[v0_0,I g_0_1_152] :: oS 49 (oRule 3 22) v153_g8_1 g8_1_153 :: box g8 25 #[v96_g8_0,v153_g8_1] :: box g3 25 #[S0,S0] :: R)
 have Z:=Star.addNil (R:=(oRule 3 22)) (e:=49) Z
 have Z:=Z.gets [4,4,2,3] rfl
 have Z:=Star.drop 4 Z rfl
 refine W_loop I157 (n:=fu) ?_ ?_
 exact ij hI157 ⟨x138.1,x138.2,[],H98,S0,hL157,(Le.refl _),sf0,sf2,sf3,rfl,Z⟩
 intro n157 f w_ hI
 obtain ⟨i_151,g_0_1_152,g8_1_153,H155,v153_g8_1,hL157,l156,sf0,sf2,sf3,sf7,Z⟩:=ik hI157 hI
 rcases n157 with _ | n157
 exact (while_zero hL157).elim
 obtain ⟨o157,hB157,hL157⟩:=while_succ hL157
 rw [s_l6Model_b4] at hB157
 refine W_seq (sq (mF sf7 rfl (L_gtr rfl rfl rfl (nn (W_cond (b:=decide (i_151 > 0)) rfl (fun hc159=>?_) (fun hc159=>?_))))))
 have hB157:=(ite_t hc159).symm.trans hB157
 refine W_skip (W_seq (W_block ?_))
 obtain ⟨x166,hx166,hB157⟩:=bind_some hB157
 obtain ⟨x174,hx174,hB157⟩:=bind_some hB157
 have Z:=Z.gets [3,3,3] rfl
 refine W_drawS 6 [isV (Pq g8 1),isV (v153_g8_1),isV (Pt g_0),isV (.agg #[v96_g8_0,v153_g8_1]),exA fun u_1=>exA fun u_2=>exA fun u_4=>isV (.agg #[I x166.1.kind,u_1,u_2,I x166.1.bound,u_4]),anyF] [oS 49 (oRule 3 22) v153_g8_1 g8_1_153,box g8 25 #[v96_g8_0,v153_g8_1],box g3 25 #[S0,S0]] [.base (box g_0 117 #[v0_0,I g_0_1_152]) (some 4),.made 4 62 (fun v_=>oF 3 RP.int (aggC v_ 1) x166.1.vars) (some 5),.made 4 62 (fun v_=>oF 3 RP.int (aggC v_ 2) x166.1.coefs) (some 5),.made 4 62 (fun v_=>own (OR.ownS 22 (OR.ownS 3 (OR.frz RP.int))) [(aggC v_ 4)] x166.1.rows) (some 5),.made 4 62 (fun v_=>box g_0 117 #[v0_0,I x166.2]) none,.made 5 63 (fun v_=>oS 49 (oRule 3 22) v_ ([x166.1])) none] (R) [([],[]),([],[]),([],[]),([],[]),([0],[1,2,3,4]),([1,2,3],[5])] (S:=[(none,[],some 4),(some 4,[62],some 5),(some 4,[62],some 5),(some 4,[62],some 5),(some 4,[62],none),(some 5,[63],none)]) Tryz_mix (by kernel_rfl) rfl (by kernel_rfl) (amF_cons (mono_V _) (amF_cons (mono_V _) (amF_cons (mono_V _) (amF_cons (mono_V _) (amF_cons (mono_exA fun _=>mono_exA fun _=>mono_exA fun _=>mono_V _) (amF_cons (mono_any) amF_nil)))))) Z ?_ (fun f w_ H179 hS179 hE179 hT179 Z=>?_)
 refine opsS_cons (fun f w_ _ _ s _ _ Z=>fA 1 fa_25_1 ((s 3 rfl).trans sf3) rfl (nO rfl rfl Z)) (opsS_cons (fun f w_ _ _ _ _ p Z=>ldB 1 Z Tryz.isAgg23 (p 0 58 rfl rfl) rfl rfl (nO rfl rfl Z)) (opsS_cons (fun f w_ _ _ s _ _ Z=>mF ((s 0 rfl).trans sf0) rfl (nO rfl rfl Z)) (opsS_cons (fun f w_ _ _ s _ _ Z=>L_lda (cs:=[v96_g8_0,v153_g8_1]) rfl Tryz.isAgg25 Tryz.sizeOf25 ((s 3 rfl).trans sf3) (At.sub0 (Blk.at (Star.blkAt 1 Z rfl)) 0 2) rfl (nO rfl rfl Z)) (opsS_cons ?_ ?_))))
 intro f w_ H179 X179 hS179 hE179 hP179 Z
 have Z : Star H179 w_ (oS 49 (oRule 3 22) v153_g8_1 g8_1_153 :: box g8 25 #[v96_g8_0,v153_g8_1] :: box g3 25 #[S0,S0] :: box g_0 117 #[v0_0,I g_0_1_152] :: X179):=Z
 have Z:=Z.get 3 rfl
 obtain ⟨H193b,l194,s195,z196,k197⟩:=Z.lend [_]
 have hb198 : (rS 49 (rRule 3 22)).rel H193b [v153_g8_1] g8_1_153:=fz_own 0 z196 rfl
 refine L_call rfl Tryz.call100 (ops2 (hP179 2 60 rfl rfl) (hP179 3 61 rfl rfl)) (s_l6Draw_c (r_:=({ b:=r_.b,p:=g_0_1_152 } : Rd)) (m:=({ sizes:=g8_0_96,rules:=g8_1_153 } : Model)) s195 (RP.mono _ h0_0 (Le.trans (Le.trans (Le.trans (Le.trans l38 l99) l156) hE179) l194)) (RP.mono _ hv97_g8_0 (Le.trans (Le.trans l156 hE179) l194)) hb198 hx166) ?_
 rintro _ w199 ⟨r199_0,r199_1,r199_2,rfl,Z⟩
 have Z:=k197 Z (co closed_int (co closed_int (cc (closed_own (OR.closed_ownS (OR.closed_ownS closed_int)) _ _) (cb c0))))
 have Z:=Z.gets [3,3,3,3,6,6,6] rfl
 exact L_nil ⟨rfl,_,_,rfl,Le.refl _,fun _ _=>⟨_,_,_,rfl⟩,Z⟩
 refine opsS_cons ?_ ?_
 intro f w_ H179 X179 hS179 hE179 hP179 Z
 have Z : Star H179 w_ (oS 49 (oRule 3 22) v153_g8_1 g8_1_153 :: box g8 25 #[v96_g8_0,v153_g8_1] :: box g3 25 #[S0,S0] :: own (OR.ownS 3 (OR.frz RP.int)) [(aggC (f 62) 1)] x166.1.vars :: own (OR.ownS 3 (OR.frz RP.int)) [(aggC (f 62) 2)] x166.1.coefs :: own (OR.ownS 22 (OR.ownS 3 (OR.frz RP.int))) [(aggC (f 62) 4)] x166.1.rows :: X179):=Z
 obtain ⟨u203_1,u203_2,u203_4,hv203⟩:=(hP179 4 62 rfl rfl)
 have hren : Star H179 w_ (oS 49 (oRule 3 22) v153_g8_1 g8_1_153 :: box g8 25 #[v96_g8_0,v153_g8_1] :: box g3 25 #[S0,S0] :: own (OR.ownS 3 (OR.frz RP.int)) [(aggC (f 62) 1)] x166.1.vars :: own (OR.ownS 3 (OR.frz RP.int)) [(aggC (f 62) 2)] x166.1.coefs :: own (OR.ownS 22 (OR.ownS 3 (OR.frz RP.int))) [(aggC (f 62) 4)] x166.1.rows :: X179):=Z
 rw [hv203] at hren
 have Z : Star H179 w_ (oS 49 (oRule 3 22) v153_g8_1 g8_1_153 :: box g8 25 #[v96_g8_0,v153_g8_1] :: box g3 25 #[S0,S0] :: oF 3 RP.int u203_1 x166.1.vars :: oF 3 RP.int u203_2 x166.1.coefs :: own (OR.ownS 22 (OR.ownS 3 (OR.frz RP.int))) [u203_4] x166.1.rows :: X179):=hren
 refine L_bs rfl (parts1 hv203) (bs_23_1_5 (I x166.1.kind) (u203_1) (u203_2) (I x166.1.bound) (u203_4) ) Z (fun g204 w205 Z=>?_)
 have Z:=Z.gets [6,6,6] rfl
 have Z:=oRule_close (r:=x166.1) Z
 have Z:=Star.mkRow (R:=(oRule 3 22)) [([I x166.1.kind,u203_1,u203_2,I x166.1.bound,u203_4],x166.1)] [x166.1] 1 Z rfl rfl rfl (by decide)
 have Z:=Z.gets [3,3,3] rfl
 exact L_nil ⟨rfl,_,_,rfl,Le.refl _,fun _ _=>trivial,Z⟩
 exact opsS_nil
 have Z : Star H179 w_ (oS 49 (oRule 3 22) v153_g8_1 g8_1_153 :: box g8 25 #[v96_g8_0,v153_g8_1] :: box g3 25 #[S0,S0] :: box g_0 117 #[v0_0,I x166.2] :: oS 49 (oRule 3 22) (f 63) ([x166.1]) :: R):=Z
 have Z:=Z.gets [4,1] rfl
 refine L_appM (v:=v153_g8_1) (u:=(f 63)) rfl et_23 (hT179 1 59 rfl rfl) rfl Z hx174 (fun v208 w209 Z=>fA 1 fa_25_1 ((hS179 3 rfl).trans sf3) rfl (L_stB (v:=v208) (cs2:=#[v96_g8_0,v208]) 1 rfl Tryz.sizeOf23 rfl rfl (one_len (Star.len 0 Z rfl)) Z rfl rfl rfl (fun w211 Z=>nn (W_region (mF ((hS179 7 rfl).trans sf7) rfl (L_sub rfl rfl rfl (aI rfl (nn ?_))))))))
 obtain rfl:=so hB157
 have Z:=Z.gets [2,1,2,3] rfl
 show ∃ m,m < _∧I157 m _ _
 refine ⟨n157,Nat.lt_succ_self _,?_⟩
 exact ij hI157 ⟨i64 (i_151 - 1),x166.2,x174,H179,v208,hL157,(Le.trans l156 hE179),((hS179 0 rfl).trans sf0),((hS179 2 rfl).trans sf2),((hS179 3 rfl).trans sf3),rfl,Z⟩
 have hB157:=(ite_f hc159).symm.trans hB157
 refine W_exit ?_
 obtain rfl:=so hB157
 obtain rfl:=so hL157
 exact rj hR157 ⟨i_151,g_0_1_152,g8_1_153,H155,v153_g8_1,rfl,l156,sf2,sf3,Z⟩
 intro f w_ hR
 obtain ⟨i_151,g_0_1_152,g8_1_153,H155,v153_g8_1,rfl,l156,sf2,sf3,Z⟩:=rk hR157 hR
 refine sq (L_lda (cs:=[v96_g8_0,v153_g8_1]) rfl Tryz.isAgg25 Tryz.sizeOf25 sf3 (At.sub0 (Blk.at (Star.blkAt 2 Z rfl)) 0 2) rfl (L_staB (vs:=#[v96_g8_0,v153_g8_1]) (cs2:=#[v96_g8_0,v153_g8_1]) 3 rfl Tryz.sizeOf25 sf2 rfl rfl (ones_cons (one_len (slice_len (RP.mono _ hv97_g8_0 l156))) (ones_cons (one_len (Star.len 1 Z rfl)) ones_nil)) Z rfl (by show 0 + 2≤2; decide) rfl (fun w213 Z=>nn (W_ret (retG1 (v1:=.agg #[v96_g8_0,v153_g8_1]) Tryz.results56 (resV_agg Tryz.isAgg25 Tryz.sizeOf25 sf2 (Star.blkAt 0 Z rfl) rfl) ?_)))))
 obtain rfl:=so hF
 have Z:=Z.gets [1,2] rfl
 have Z:=Star.drop 2 Z rfl
 have Z:=Star.drop 2 Z rfl
 exact ⟨H155,(Le.trans (Le.trans l38 l99) l156),v96_g8_0,v153_g8_1,rfl,(RP.mono _ hv97_g8_0 l156),Z⟩
theorem s_l6Copy_c {m : Model} {v0_0 : Value} {v0_1 : Value} {H : FH} {w : World} (Z : Star H w []) (h0_0 : (rS 3 RP.int).rel H [v0_0] m.sizes) (h0_1 : (rS 49 (rRule 3 22)).rel H [v0_1] m.rules) {r : Model} (hF : s_l6Copy m = some r) :
 C Tryz.prog 132 #[.agg #[v0_0,v0_1]] w fun v w'=>∃ (u1 : Value) (u2 : Value),v = .agg #[u1,u2]∧Star H w' [oF 3 RP.int u1 r.sizes,oS 49 (oRule 3 22) u2 r.rules]:=by
 unfold s_l6Copy at hF
 refine C_enter Tryz.func132 rfl Tryz.ntmps132 rfl (sq (L_box (v:=.agg #[v0_0,v0_1]) (cs:=#[v0_0,v0_1]) rfl rfl rfl Z (fun g5 w6 Z=>L_al (cs:=#[S0,S0]) rfl Tryz.zeroValue25 rfl Z (fun g7 w8 Z=>nq ?_))))
 obtain ⟨x12,hx12,hF⟩:=bind_some hF
 refine W_region (L_bs rfl parts0 (bs_22_0  ) Z (fun g19 w20 Z=>?_))
 have Z:=Star.mkRow (R:=(OR.frz RP.int)) [] [] 0 Z rfl rfl rfl (by decide)
 refine fA 0 fa_25_0 rfl rfl (ldB 2 Z Tryz.isAgg22 rfl rfl rfl (L_app (v:=(Sl g19 0 0)) (u:=v0_0) rfl et_22 rfl rfl Z h0_0 hx12 (fun v22 w23 Z=>L_bld rfl (parts1 rfl) (bld_25_0 (v22) (one_len (Star.len 0 Z rfl))) (L_al (cs:=#[S0,S0]) rfl Tryz.zeroValue25 rfl Z (fun g25 w26 Z=>L_staB (vs:=#[v22,S0]) (cs2:=#[v22,S0]) 0 rfl Tryz.sizeOf25 rfl rfl rfl (ones_cons (one_len (Star.len 1 Z rfl)) (ones_cons rfl ones_nil)) Z rfl (by show 0 + 2≤2; decide) rfl (fun w27 Z=>nq (sq (aI rfl (nn ?_)))))))))
 have hlen33 : List.length m.rules≤9223372036854775807:=len_le (slice_len h0_1)
 obtain ⟨j33,hL33,hF⟩:=bind_some hF
 obtain ⟨R33,hR33⟩:=exR fun f w_=>∃ g25_1_29 : List Rule,∃ H31 : FH,∃ v29_g25_1 : Value,j33 = .nx g25_1_29∧Le H H31∧f 2 = Pt g7∧f 3 = Pt g25∧Star H31 w_ ([oF 3 RP.int v22 x12,oS 49 (oRule 3 22) v29_g25_1 g25_1_29,box g25 25 #[v22,v29_g25_1],box g7 25 #[S0,S0]])
 refine W_join R33 ?_ ?_
 refine W_block ?_
 obtain ⟨I33,hI33⟩:=exI fun n f w_=>∃ i_28 : Nat,∃ suf33 : List Rule,∃ g25_1_29 : List Rule,∃ H31 : FH,∃ v29_g25_1 : Value,n = suf33.length∧List.drop i_28 m.rules = suf33∧i_28 + suf33.length = m.rules.length∧rangeL s_l6Copy_b1 suf33 i_28 g25_1_29 = some j33∧Le H H31∧f 1 = Pt g5∧f 2 = Pt g7∧f 3 = Pt g25∧f 4 = I i_28∧Star H31 w_ ([oF 3 RP.int v22 x12,oS 49 (oRule 3 22) v29_g25_1 g25_1_29,box g25 25 #[v22,v29_g25_1],box g7 25 #[S0,S0],box g5 25 #[v0_0,v0_1]])
 have Z:=Star.addNil (R:=(oRule 3 22)) (e:=49) Z
 have Z:=Z.gets [4,4,3,3,4] rfl
 refine W_loop I33 (n:=m.rules.length) ?_ ?_
 exact ij hI33 ⟨0,m.rules,[],H,S0,rfl,rfl,Nat.zero_add _,hL33,(Le.refl _),rfl,rfl,rfl,rfl,Z⟩
 intro n33 f w_ hI
 obtain ⟨i_28,suf33,g25_1_29,H31,v29_g25_1,rfl,hd33,hl33,hL33,l32,sf1,sf2,sf3,sf4,Z⟩:=ik hI33 hI
 refine W_seq (sq (mF sf4 rfl (fA 1 fa_25_1 sf1 rfl (ldB 4 Z Tryz.isAgg23 rfl rfl rfl (L_len rfl Tryz.underlying23 rfl (slice_len (RP.mono _ h0_1 l32)) (L_lss rfl rfl rfl (nn (W_cond (b:=decide ((i_28 : Int) < (m.rules.length : Int))) rfl (fun hc35=>?_) (fun hc35=>?_)))))))))
 have hlt33:=of_decide_eq_true hc35
 rcases suf33 with _ | ⟨x_33,rest33⟩
 exact absurd hlt33 (by simp at hl33; omega)
 obtain ⟨o33,hB33,hL33⟩:=range_cons hL33
 rw [s_l6Copy_b1] at hB33
 have hix33:=drop_idx hd33
 refine W_skip (W_seq (W_block (sq (fA 1 fa_25_1 sf1 rfl (ldB 4 Z Tryz.isAgg23 rfl rfl rfl (mF sf4 rfl (L_ix (r:=(rRule 3 22)) rfl Tryz.underlying23 Tryz.sizeOf49 rfl (RP.mono _ h0_1 l32) rfl hix33 (fun g43 o44 cs_g43 hrk_hat45 hat45=>?_))))))))
 obtain ⟨u46_0,u46_1,u46_2,rfl,hu46_0,hu46_1,hu46_2⟩:=rRule_iff.1 hrk_hat45
 refine L_lda (cs:=[I x_33.kind,u46_0,u46_1,I x_33.bound,u46_2]) rfl Tryz.isAgg49 Tryz.sizeOf49 rfl (At.sub (AtH.at hat45 Z.sub) 0 5) rfl (L_al (cs:=#[I 0,S0,S0,I 0,S0]) rfl Tryz.zeroValue49 rfl Z (fun g47 w48 Z=>L_staB (vs:=#[I x_33.kind,u46_0,u46_1,I x_33.bound,u46_2]) (cs2:=#[I x_33.kind,u46_0,u46_1,I x_33.bound,u46_2]) 0 rfl Tryz.sizeOf49 rfl rfl rfl (ones_cons rfl (ones_cons (one_len (slice_len hu46_0)) (ones_cons (one_len (slice_len hu46_1)) (ones_cons rfl (ones_cons (one_len (slice_len hu46_2)) ones_nil))))) Z rfl (by show 0 + 5≤5; decide) rfl (fun w49 Z=>nq ?_)))
 obtain ⟨x53,hx53,hB33⟩:=bind_some hB33
 obtain ⟨x60,hx60,hB33⟩:=bind_some hB33
 refine W_drawS 14 [isV (Pt g47),isV (I x_33.kind),anyF,isV (Pq g47 1),isV (u46_0),anyF,anyF,isV (Pq g47 2),isV (u46_1),anyF,isV (Pq g47 3),isV (I x_33.bound),exA fun u_1=>exA fun u_2=>isV (.agg #[I x_33.kind,u_1,u_2,I x_33.bound,S0]),anyF] [box g47 49 #[I x_33.kind,u46_0,u46_1,I x_33.bound,u46_2],oF 3 RP.int v22 x12,oS 49 (oRule 3 22) v29_g25_1 g25_1_29,box g25 25 #[v22,v29_g25_1],box g7 25 #[S0,S0],box g5 25 #[v0_0,v0_1]] [.made 2 27 (fun v_=>oF 3 RP.int v_ ([])) (some 5),.made 5 30 (fun v_=>oF 3 RP.int v_ x53) (some 12),.made 6 31 (fun v_=>oF 3 RP.int v_ ([])) (some 9),.made 9 34 (fun v_=>oF 3 RP.int v_ x60) (some 12),.made 12 37 (fun v_=>oF 3 RP.int (aggC v_ 1) x53) none,.made 12 37 (fun v_=>oF 3 RP.int (aggC v_ 2) x60) none,.made 13 6 (fun v_=>boxV v_ 49 #[I 0,S0,S0,I 0,S0]) none] ([]) [([],[]),([],[]),([],[0]),([],[]),([],[]),([0],[1]),([],[2]),([],[]),([],[]),([2],[3]),([],[]),([],[]),([1,3],[4,5]),([],[6])] (S:=[(some 2,[27],some 5),(some 5,[30],some 12),(some 6,[31],some 9),(some 9,[34],some 12),(some 12,[37],none),(some 12,[37],none),(some 13,[6],none)]) Tryz_mix (by kernel_rfl) rfl (by kernel_rfl) (amF_cons (mono_V _) (amF_cons (mono_V _) (amF_cons (mono_any) (amF_cons (mono_V _) (amF_cons (mono_V _) (amF_cons (mono_any) (amF_cons (mono_any) (amF_cons (mono_V _) (amF_cons (mono_V _) (amF_cons (mono_any) (amF_cons (mono_V _) (amF_cons (mono_V _) (amF_cons (mono_exA fun _=>mono_exA fun _=>mono_V _) (amF_cons (mono_any) amF_nil)))))))))))))) Z ?_ (fun f w_ H67 hS67 hE67 hT67 Z=>?_)
 refine opsS_cons (fun f w_ _ _ s _ _ Z=>fA 0 fa_49_0 ((s 5 rfl).trans rfl) rfl (nO rfl rfl Z)) (opsS_cons (fun f w_ _ _ _ _ p Z=>ldB 0 Z Tryz.isAgg3 (p 0 25 rfl rfl) rfl rfl (nO rfl rfl Z)) (opsS_cons ?_ ?_))
 intro f w_ H67 X67 hS67 hE67 hP67 Z
 refine L_bs rfl parts0 (bs_22_0  ) Z (fun g82 w83 Z=>?_)
 have Z:=Star.mkRow (R:=(OR.frz RP.int)) [] [] 0 Z rfl rfl rfl (by decide)
 have Z:=Z.gets [6,6,6,6,6,6] rfl
 exact L_nil ⟨rfl,_,_,rfl,Le.refl _,fun _ _=>trivial,Z⟩
 refine opsS_cons (fun f w_ _ _ s _ _ Z=>fA 1 fa_49_1 ((s 5 rfl).trans rfl) rfl (nO rfl rfl Z)) (opsS_cons (fun f w_ _ _ _ _ p Z=>ldB 0 Z Tryz.isAgg22 (p 3 28 rfl rfl) rfl rfl (nO rfl rfl Z)) (opsS_cons ?_ ?_))
 intro f w_ H67 X67 hS67 hE67 hP67 Z
 have Z : Star H67 w_ (box g47 49 #[I x_33.kind,u46_0,u46_1,I x_33.bound,u46_2] :: oF 3 RP.int v22 x12 :: oS 49 (oRule 3 22) v29_g25_1 g25_1_29 :: box g25 25 #[v22,v29_g25_1] :: box g7 25 #[S0,S0] :: box g5 25 #[v0_0,v0_1] :: oF 3 RP.int (f 27) ([]) :: X67):=Z
 have Z:=Z.get 6 rfl
 refine L_app (v:=(f 27)) (u:=u46_0) rfl et_22 rfl (hP67 4 29 rfl rfl) Z (RP.mono _ hu46_0 hE67) hx53 (fun v86 w87 Z=>?_)
 have Z:=Z.gets [6,6,6,6,6,6] rfl
 exact L_nil ⟨rfl,_,_,rfl,Le.refl _,fun _ _=>trivial,Z⟩
 refine opsS_cons ?_ ?_
 intro f w_ H67 X67 hS67 hE67 hP67 Z
 refine L_bs rfl parts0 (bs_22_0  ) Z (fun g89 w90 Z=>?_)
 have Z:=Star.mkRow (R:=(OR.frz RP.int)) [] [] 0 Z rfl rfl rfl (by decide)
 have Z:=Z.gets [6,6,6,6,6,6] rfl
 exact L_nil ⟨rfl,_,_,rfl,Le.refl _,fun _ _=>trivial,Z⟩
 refine opsS_cons (fun f w_ _ _ s _ _ Z=>fA 2 fa_49_2 ((s 5 rfl).trans rfl) rfl (nO rfl rfl Z)) (opsS_cons (fun f w_ _ _ _ _ p Z=>ldB 0 Z Tryz.isAgg22 (p 7 32 rfl rfl) rfl rfl (nO rfl rfl Z)) (opsS_cons ?_ ?_))
 intro f w_ H67 X67 hS67 hE67 hP67 Z
 have Z : Star H67 w_ (box g47 49 #[I x_33.kind,u46_0,u46_1,I x_33.bound,u46_2] :: oF 3 RP.int v22 x12 :: oS 49 (oRule 3 22) v29_g25_1 g25_1_29 :: box g25 25 #[v22,v29_g25_1] :: box g7 25 #[S0,S0] :: box g5 25 #[v0_0,v0_1] :: oF 3 RP.int (f 31) ([]) :: X67):=Z
 have Z:=Z.get 6 rfl
 refine L_app (v:=(f 31)) (u:=u46_1) rfl et_22 rfl (hP67 8 33 rfl rfl) Z (RP.mono _ hu46_1 hE67) hx60 (fun v93 w94 Z=>?_)
 have Z:=Z.gets [6,6,6,6,6,6] rfl
 exact L_nil ⟨rfl,_,_,rfl,Le.refl _,fun _ _=>trivial,Z⟩
 refine opsS_cons (fun f w_ _ _ s _ _ Z=>fA 3 fa_49_3 ((s 5 rfl).trans rfl) rfl (nO rfl rfl Z)) (opsS_cons (fun f w_ _ _ _ _ p Z=>ldB 0 Z Tryz.isAgg3 (p 10 35 rfl rfl) rfl rfl (nO rfl rfl Z)) (opsS_cons ?_ ?_))
 intro f w_ H67 X67 hS67 hE67 hP67 Z
 have Z : Star H67 w_ (box g47 49 #[I x_33.kind,u46_0,u46_1,I x_33.bound,u46_2] :: oF 3 RP.int v22 x12 :: oS 49 (oRule 3 22) v29_g25_1 g25_1_29 :: box g25 25 #[v22,v29_g25_1] :: box g7 25 #[S0,S0] :: box g5 25 #[v0_0,v0_1] :: oF 3 RP.int (f 30) x53 :: oF 3 RP.int (f 34) x60 :: X67):=Z
 refine L_bld rfl (parts4 (hP67 1 26 rfl rfl) rfl rfl (hP67 11 36 rfl rfl)) (bld_49_0_1_2_3 (I x_33.kind) ((f 30)) ((f 34)) (I x_33.bound) rfl (one_len (Star.len 6 Z rfl)) (one_len (Star.len 7 Z rfl)) rfl) (L_nil ⟨rfl,_,_,rfl,Le.refl _,fun _ _=>⟨_,_,rfl⟩,Z⟩)
 refine opsS_cons ?_ ?_
 intro f w_ H67 X67 hS67 hE67 hP67 Z
 refine L_al (cs:=#[I 0,S0,S0,I 0,S0]) rfl Tryz.zeroValue49 rfl Z (fun g98 w99 Z=>?_)
 have Z:=Z.gets [6,6,6,6,6,6,6] rfl
 have Z:=Star.boxV (v:=Pt g98) rfl Z
 have Z:=Z.gets [6,6,6,6,6,6] rfl
 exact L_nil ⟨rfl,_,_,rfl,Le.refl _,fun _ _=>trivial,Z⟩
 exact opsS_nil
 have Z : Star H67 w_ ([box g47 49 #[I x_33.kind,u46_0,u46_1,I x_33.bound,u46_2],oF 3 RP.int v22 x12,oS 49 (oRule 3 22) v29_g25_1 g25_1_29,box g25 25 #[v22,v29_g25_1],box g7 25 #[S0,S0],box g5 25 #[v0_0,v0_1],own (OR.ownS 3 (OR.frz RP.int)) [(aggC (f 37) 1)] x53,own (OR.ownS 3 (OR.frz RP.int)) [(aggC (f 37) 2)] x60,boxV (f 6) 49 #[I 0,S0,S0,I 0,S0]]):=Z
 obtain ⟨u100_1,u100_2,hv100⟩:=(hT67 12 37 rfl rfl)
 have hren : Star H67 w_ ([box g47 49 #[I x_33.kind,u46_0,u46_1,I x_33.bound,u46_2],oF 3 RP.int v22 x12,oS 49 (oRule 3 22) v29_g25_1 g25_1_29,box g25 25 #[v22,v29_g25_1],box g7 25 #[S0,S0],box g5 25 #[v0_0,v0_1],own (OR.ownS 3 (OR.frz RP.int)) [(aggC (f 37) 1)] x53,own (OR.ownS 3 (OR.frz RP.int)) [(aggC (f 37) 2)] x60,boxV (f 6) 49 #[I 0,S0,S0,I 0,S0]]):=Z
 rw [hv100] at hren
 have Z : Star H67 w_ ([box g47 49 #[I x_33.kind,u46_0,u46_1,I x_33.bound,u46_2],oF 3 RP.int v22 x12,oS 49 (oRule 3 22) v29_g25_1 g25_1_29,box g25 25 #[v22,v29_g25_1],box g7 25 #[S0,S0],box g5 25 #[v0_0,v0_1],oF 3 RP.int u100_1 x53,oF 3 RP.int u100_2 x60,boxV (f 6) 49 #[I 0,S0,S0,I 0,S0]]):=hren
 obtain ⟨g101,hv101,Z⟩:=Star.unboxV (Star.get 8 Z rfl)
 refine L_staB (vs:=#[I x_33.kind,u100_1,u100_2,I x_33.bound,S0]) (cs2:=#[I x_33.kind,u100_1,u100_2,I x_33.bound,S0]) 0 rfl Tryz.sizeOf49 hv101 hv100 rfl (ones_cons rfl (ones_cons (one_len (Star.len 7 Z rfl)) (ones_cons (one_len (Star.len 8 Z rfl)) (ones_cons rfl (ones_cons rfl ones_nil))))) Z rfl (by show 0 + 5≤5; decide) rfl (fun w102 Z=>L_nil (W_seq (sq (aI rfl (nn ?_)))))
 have hlen108 : List.length x_33.rows≤9223372036854775807:=len_le (slice_len (RP.mono _ hu46_2 hE67))
 obtain ⟨j108,hL108,hB33⟩:=bind_some hB33
 obtain ⟨R108,hR108⟩:=exR fun f w_=>∃ g101_4_104 : List (List Int),∃ H106 : FH,∃ v104_g101_4 : Value,j108 = .nx g101_4_104∧Le H67 H106∧f 1 = Pt g5∧f 2 = Pt g7∧f 3 = Pt g25∧f 4 = I i_28∧f 6 = Pt g101∧Star H106 w_ ([oF 3 RP.int u100_1 x53,oF 3 RP.int u100_2 x60,own (OR.ownS 22 (OR.ownS 3 (OR.frz RP.int))) [v104_g101_4] g101_4_104,box g101 49 #[I x_33.kind,u100_1,u100_2,I x_33.bound,v104_g101_4],oF 3 RP.int v22 x12,oS 49 (oRule 3 22) v29_g25_1 g25_1_29,box g25 25 #[v22,v29_g25_1],box g7 25 #[S0,S0],box g5 25 #[v0_0,v0_1]])
 refine W_join R108 ?_ ?_
 refine W_block ?_
 obtain ⟨I108,hI108⟩:=exI fun n f w_=>∃ i_103 : Nat,∃ suf108 : List (List Int),∃ g101_4_104 : List (List Int),∃ H106 : FH,∃ v104_g101_4 : Value,n = suf108.length∧List.drop i_103 x_33.rows = suf108∧i_103 + suf108.length = x_33.rows.length∧rangeL s_l6Copy_b2 suf108 i_103 g101_4_104 = some j108∧Le H67 H106∧f 1 = Pt g5∧f 2 = Pt g7∧f 3 = Pt g25∧f 4 = I i_28∧f 5 = Pt g47∧f 6 = Pt g101∧f 7 = I i_103∧Star H106 w_ ([oF 3 RP.int u100_1 x53,oF 3 RP.int u100_2 x60,own (OR.ownS 22 (OR.ownS 3 (OR.frz RP.int))) [v104_g101_4] g101_4_104,box g101 49 #[I x_33.kind,u100_1,u100_2,I x_33.bound,v104_g101_4],box g47 49 #[I x_33.kind,u46_0,u46_1,I x_33.bound,u46_2],oF 3 RP.int v22 x12,oS 49 (oRule 3 22) v29_g25_1 g25_1_29,box g25 25 #[v22,v29_g25_1],box g7 25 #[S0,S0],box g5 25 #[v0_0,v0_1]])
 have Z:=Star.addNil (R:=(OR.ownS 3 (OR.frz RP.int))) (e:=22) Z
 have Z:=Z.gets [7,7,7,7,7,7,7,7,9,9] rfl
 refine W_loop I108 (n:=x_33.rows.length) ?_ ?_
 exact ij hI108 ⟨0,x_33.rows,[],H67,S0,rfl,rfl,Nat.zero_add _,hL108,(Le.refl _),((hS67 1 rfl).trans sf1),((hS67 2 rfl).trans sf2),((hS67 3 rfl).trans sf3),((hS67 4 rfl).trans sf4),((hS67 5 rfl).trans rfl),hv101,rfl,Z⟩
 intro n108 f w_ hI
 obtain ⟨i_103,suf108,g101_4_104,H106,v104_g101_4,rfl,hd108,hl108,hL108,l107,sf1,sf2,sf3,sf4,sf5,sf6,sf7,Z⟩:=ik hI108 hI
 refine W_seq (sq (mF sf7 rfl (fA 4 fa_49_4 sf5 rfl (ldB 4 Z Tryz.isAgg47 rfl rfl rfl (L_len rfl Tryz.underlying47 rfl (slice_len (RP.mono _ hu46_2 (Le.trans hE67 l107))) (L_lss rfl rfl rfl (nn (W_cond (b:=decide ((i_103 : Int) < (x_33.rows.length : Int))) rfl (fun hc110=>?_) (fun hc110=>?_)))))))))
 have hlt108:=of_decide_eq_true hc110
 rcases suf108 with _ | ⟨x_108,rest108⟩
 exact absurd hlt108 (by simp at hl108; omega)
 obtain ⟨o108,hB108,hL108⟩:=range_cons hL108
 rw [s_l6Copy_b2] at hB108
 have hix108:=drop_idx hd108
 refine W_skip (W_seq (W_block ?_))
 obtain ⟨x118,hx118,hB108⟩:=bind_some hB108
 obtain ⟨x125,hx125,hB108⟩:=bind_some hB108
 refine W_drawS 10 [isV (Pq g101 4),isV (v104_g101_4),anyF,isV (Pq g47 4),isV (u46_2),isV (I i_103),isEl (rS 3 RP.int) x_108 0,isData (rS 3 RP.int) x_108,anyF,anyF] [oF 3 RP.int u100_1 x53,oF 3 RP.int u100_2 x60,own (OR.ownS 22 (OR.ownS 3 (OR.frz RP.int))) [v104_g101_4] g101_4_104,box g101 49 #[I x_33.kind,u100_1,u100_2,I x_33.bound,v104_g101_4],box g47 49 #[I x_33.kind,u46_0,u46_1,I x_33.bound,u46_2],oF 3 RP.int v22 x12,oS 49 (oRule 3 22) v29_g25_1 g25_1_29,box g25 25 #[v22,v29_g25_1],box g7 25 #[S0,S0],box g5 25 #[v0_0,v0_1]] [.made 2 47 (fun v_=>oF 3 RP.int v_ ([])) (some 8),.made 8 53 (fun v_=>oF 3 RP.int v_ x118) (some 9),.made 9 54 (fun v_=>own (OR.ownS 22 (OR.ownS 3 (OR.frz RP.int))) [v_] ([x118])) none] ([]) [([],[]),([],[]),([],[0]),([],[]),([],[]),([],[]),([],[]),([],[]),([0],[1]),([1],[2])] (S:=[(some 2,[47],some 8),(some 8,[53],some 9),(some 9,[54],none)]) Tryz_mix (by kernel_rfl) rfl (by kernel_rfl) (amF_cons (mono_V _) (amF_cons (mono_V _) (amF_cons (mono_any) (amF_cons (mono_V _) (amF_cons (mono_V _) (amF_cons (mono_V _) (amF_cons (mono_el _ _ _) (amF_cons (mono_data _ _) (amF_cons (mono_any) (amF_cons (mono_any) amF_nil)))))))))) Z ?_ (fun f w_ H130 hS130 hE130 hT130 Z=>?_)
 refine opsS_cons (fun f w_ _ _ s _ _ Z=>fA 4 fa_49_4 ((s 6 rfl).trans sf6) rfl (nO rfl rfl Z)) (opsS_cons (fun f w_ _ _ _ _ p Z=>ldB 3 Z Tryz.isAgg47 (p 0 45 rfl rfl) rfl rfl (nO rfl rfl Z)) (opsS_cons ?_ ?_))
 intro f w_ H130 X130 hS130 hE130 hP130 Z
 refine L_bs rfl parts0 (bs_22_0  ) Z (fun g144 w145 Z=>?_)
 have Z:=Star.mkRow (R:=(OR.frz RP.int)) [] [] 0 Z rfl rfl rfl (by decide)
 have Z:=Z.gets [10,10,10,10,10,10,10,10,10,10] rfl
 exact L_nil ⟨rfl,_,_,rfl,Le.refl _,fun _ _=>trivial,Z⟩
 refine opsS_cons (fun f w_ _ _ s _ _ Z=>fA 4 fa_49_4 ((s 5 rfl).trans sf5) rfl (nO rfl rfl Z)) (opsS_cons (fun f w_ _ _ _ _ p Z=>ldB 4 Z Tryz.isAgg47 (p 3 48 rfl rfl) rfl rfl (nO rfl rfl Z)) (opsS_cons (fun f w_ _ _ s _ _ Z=>mF ((s 7 rfl).trans sf7) rfl (nO rfl rfl Z)) (opsS_cons ?_ ?_)))
 intro f w_ H130 X130 hS130 hE130 hP130 Z
 refine L_ix (r:=(rS 3 RP.int)) rfl Tryz.underlying47 Tryz.sizeOf22 (hP130 4 49 rfl rfl) (RP.mono _ hu46_2 (Le.trans (Le.trans hE67 l107) hE130)) (hP130 5 50 rfl rfl) hix108 (fun g147 o148 cs_g147 hrk_hat149 hat149=>?_)
 obtain ⟨u150,rfl,hu150⟩:=slice1 hrk_hat149
 exact L_nil ⟨rfl,_,_,rfl,Le.refl _,fun _ _=>⟨_,_,_,rfl,hrk_hat149,hat149⟩,Z⟩
 refine opsS_cons ?_ ?_
 intro f w_ H130 X130 hS130 hE130 hP130 Z
 obtain ⟨g151,o151,cs151,hv151,hrk_hat151,hat151⟩:=(hP130 6 51 rfl rfl)
 obtain ⟨u152,rfl,hu152⟩:=slice1 hrk_hat151
 refine L_ld rfl Tryz.isAgg22 hv151 (At.cell (AtH.at hat151 Z.sub) (j:=0) rfl) (L_nil ⟨rfl,_,_,rfl,Le.refl _,fun _ _=>hu152,Z⟩)
 refine opsS_cons ?_ ?_
 intro f w_ H130 X130 hS130 hE130 hP130 Z
 have Z : Star H130 w_ (oF 3 RP.int u100_1 x53 :: oF 3 RP.int u100_2 x60 :: own (OR.ownS 22 (OR.ownS 3 (OR.frz RP.int))) [v104_g101_4] g101_4_104 :: box g101 49 #[I x_33.kind,u100_1,u100_2,I x_33.bound,v104_g101_4] :: box g47 49 #[I x_33.kind,u46_0,u46_1,I x_33.bound,u46_2] :: oF 3 RP.int v22 x12 :: oS 49 (oRule 3 22) v29_g25_1 g25_1_29 :: box g25 25 #[v22,v29_g25_1] :: box g7 25 #[S0,S0] :: box g5 25 #[v0_0,v0_1] :: oF 3 RP.int (f 47) ([]) :: X130):=Z
 have hd154 : (rS 3 RP.int).rel H130 [f 52] x_108:=(hP130 7 52 rfl rfl)
 have Z:=Z.get 10 rfl
 refine L_app (v:=(f 47)) (u:=(f 52)) rfl et_22 rfl rfl Z hd154 hx118 (fun v155 w156 Z=>?_)
 have Z:=Z.gets [10,10,10,10,10,10,10,10,10,10] rfl
 exact L_nil ⟨rfl,_,_,rfl,Le.refl _,fun _ _=>trivial,Z⟩
 refine opsS_cons ?_ ?_
 intro f w_ H130 X130 hS130 hE130 hP130 Z
 have Z : Star H130 w_ (oF 3 RP.int u100_1 x53 :: oF 3 RP.int u100_2 x60 :: own (OR.ownS 22 (OR.ownS 3 (OR.frz RP.int))) [v104_g101_4] g101_4_104 :: box g101 49 #[I x_33.kind,u100_1,u100_2,I x_33.bound,v104_g101_4] :: box g47 49 #[I x_33.kind,u46_0,u46_1,I x_33.bound,u46_2] :: oF 3 RP.int v22 x12 :: oS 49 (oRule 3 22) v29_g25_1 g25_1_29 :: box g25 25 #[v22,v29_g25_1] :: box g7 25 #[S0,S0] :: box g5 25 #[v0_0,v0_1] :: oF 3 RP.int (f 53) x118 :: X130):=Z
 refine L_bs rfl (parts1 rfl) (bs_47_1_0 ((f 53)) (one_len (Star.len 10 Z rfl))) Z (fun g159 w160 Z=>?_)
 have Z:=Z.get 11 rfl
 have Z:=Star.mkRow (R:=(OR.ownS 3 (OR.frz RP.int))) [([(f 53)],x118)] [x118] 1 Z rfl rfl rfl (by decide)
 have Z:=Z.gets [10,10,10,10,10,10,10,10,10,10] rfl
 exact L_nil ⟨rfl,_,_,rfl,Le.refl _,fun _ _=>trivial,Z⟩
 exact opsS_nil
 have Z : Star H130 w_ ([oF 3 RP.int u100_1 x53,oF 3 RP.int u100_2 x60,own (OR.ownS 22 (OR.ownS 3 (OR.frz RP.int))) [v104_g101_4] g101_4_104,box g101 49 #[I x_33.kind,u100_1,u100_2,I x_33.bound,v104_g101_4],box g47 49 #[I x_33.kind,u46_0,u46_1,I x_33.bound,u46_2],oF 3 RP.int v22 x12,oS 49 (oRule 3 22) v29_g25_1 g25_1_29,box g25 25 #[v22,v29_g25_1],box g7 25 #[S0,S0],box g5 25 #[v0_0,v0_1],own (OR.ownS 22 (OR.ownS 3 (OR.frz RP.int))) [(f 54)] ([x118])]):=Z
 have Z:=Z.gets [10,3] rfl
 refine L_appM (v:=v104_g101_4) (u:=(f 54)) rfl et_47 (hT130 1 46 rfl rfl) rfl Z hx125 (fun v163 w164 Z=>fA 4 fa_49_4 ((hS130 6 rfl).trans sf6) rfl (L_stB (v:=v163) (cs2:=#[I x_33.kind,u100_1,u100_2,I x_33.bound,v163]) 3 rfl Tryz.sizeOf47 rfl rfl (one_len (Star.len 0 Z rfl)) Z rfl rfl rfl (fun w166 Z=>nn (W_region (mF ((hS130 7 rfl).trans sf7) rfl (L_add rfl rfl rfl (aI rfl (nn ?_))))))))
 obtain rfl:=so hB108
 have Z:=Z.gets [9,9,9,9,9,9,6,7,9,9] rfl
 show ∃ m,m < _∧I108 m _ _
 refine ⟨rest108.length,by simp,?_⟩
 exact ij hI108 ⟨i_103 + 1,rest108,x125,H130,v163,rfl,drop_next hd108,by simp at hl108; omega,hL108,(Le.trans l107 hE130),((hS130 1 rfl).trans sf1),((hS130 2 rfl).trans sf2),((hS130 3 rfl).trans sf3),((hS130 4 rfl).trans sf4),((hS130 5 rfl).trans sf5),((hS130 6 rfl).trans sf6),(Eq.trans rfl (congrArg (Value.int .i64) (i64_succ (n:=x_33.rows.length) (by simp at hl108; omega) hlen108))),Z⟩
 rcases suf108 with _ | ⟨_,_⟩
 obtain rfl:=range_nil hL108
 refine W_exit ?_
 have Z:=Z.gets [9,9,9,9,9,8,8,8,8] rfl
 exact rj hR108 ⟨g101_4_104,H106,v104_g101_4,rfl,l107,sf1,sf2,sf3,sf4,sf6,(Star.keepN 9 Z)⟩
 exact absurd (of_decide_eq_false hc110) (by simp at hl108; omega)
 intro f w_ hR
 obtain ⟨g101_4_104,H106,v104_g101_4,rfl,l107,sf1,sf2,sf3,sf4,sf6,Z⟩:=rk hR108 hR
 obtain ⟨x170,hx170,hB33⟩:=bind_some hB33
 refine W_region (fA 1 fa_25_1 sf3 rfl (ldB 6 Z Tryz.isAgg23 rfl rfl rfl (L_lda (cs:=[I x_33.kind,u100_1,u100_2,I x_33.bound,v104_g101_4]) rfl Tryz.isAgg49 Tryz.sizeOf49 sf6 (At.sub0 (Blk.at (Star.blkAt 3 Z rfl)) 0 5) rfl (L_bs rfl (parts1 rfl) (bs_23_1_5 (I x_33.kind) (u100_1) (u100_2) (I x_33.bound) (v104_g101_4) ) Z (fun g175 w176 Z=>?_)))))
 have Z:=Z.gets [3,3,3] rfl
 have Z:=oRule_close (r:=({ kind:=x_33.kind,vars:=x53,coefs:=x60,bound:=x_33.bound,rows:=g101_4_104 } : Rule)) Z
 have Z:=Star.mkRow (R:=(oRule 3 22)) [([I x_33.kind,u100_1,u100_2,I x_33.bound,v104_g101_4],({ kind:=x_33.kind,vars:=x53,coefs:=x60,bound:=x_33.bound,rows:=g101_4_104 } : Rule))] [({ kind:=x_33.kind,vars:=x53,coefs:=x60,bound:=x_33.bound,rows:=g101_4_104 } : Rule)] 1 Z rfl rfl rfl (by decide)
 have Z:=Z.get 3 rfl
 refine L_appM (v:=v29_g25_1) (u:=(Sl g175 1 1)) rfl et_23 rfl rfl Z hx170 (fun v178 w179 Z=>fA 1 fa_25_1 sf3 rfl (L_stB (v:=v178) (cs2:=#[v22,v178]) 3 rfl Tryz.sizeOf23 rfl rfl (one_len (Star.len 0 Z rfl)) Z rfl rfl rfl (fun w181 Z=>nn (W_region (mF sf4 rfl (L_add rfl rfl rfl (aI rfl (nn ?_))))))))
 obtain rfl:=so hB33
 have Z:=Z.gets [5,5,2,3,5] rfl
 show ∃ m,m < _∧I33 m _ _
 refine ⟨rest33.length,by simp,?_⟩
 exact ij hI33 ⟨i_28 + 1,rest33,x170,H106,v178,rfl,drop_next hd33,by simp at hl33; omega,hL33,(Le.trans (Le.trans l32 hE67) l107),sf1,sf2,sf3,(Eq.trans rfl (congrArg (Value.int .i64) (i64_succ (n:=m.rules.length) (by simp at hl33; omega) hlen33))),(Star.keepN 5 Z)⟩
 rcases suf33 with _ | ⟨_,_⟩
 obtain rfl:=range_nil hL33
 refine W_exit (rj hR33 ⟨g25_1_29,H31,v29_g25_1,rfl,l32,sf2,sf3,(Star.keepN 4 Z)⟩)
 exact absurd (of_decide_eq_false hc35) (by simp at hl33; omega)
 intro f w_ hR
 obtain ⟨g25_1_29,H31,v29_g25_1,rfl,l32,sf2,sf3,Z⟩:=rk hR33 hR
 refine sq (L_lda (cs:=[v22,v29_g25_1]) rfl Tryz.isAgg25 Tryz.sizeOf25 sf3 (At.sub0 (Blk.at (Star.blkAt 2 Z rfl)) 0 2) rfl (L_staB (vs:=#[v22,v29_g25_1]) (cs2:=#[v22,v29_g25_1]) 3 rfl Tryz.sizeOf25 sf2 rfl rfl (ones_cons (one_len (Star.len 0 Z rfl)) (ones_cons (one_len (Star.len 1 Z rfl)) ones_nil)) Z rfl (by show 0 + 2≤2; decide) rfl (fun w183 Z=>nn (W_ret (retG1 (v1:=.agg #[v22,v29_g25_1]) Tryz.results132 (resV_agg Tryz.isAgg25 Tryz.sizeOf25 sf2 (Star.blkAt 0 Z rfl) rfl) ?_)))))
 obtain rfl:=so hF
 have Z:=Z.gets [2,2] rfl
 exact ⟨v22,v29_g25_1,rfl,(Star.down (Star.keepN 2 Z) l32 (co closed_int (co closed_oRule c0)))⟩
theorem s_l6Mutate_c {fu : Nat} {r_ : Rd} {m : Model} {g_0 : Nat} {v0_0 : Value} {v1_0 : Value} {v1_1 : Value} {H : FH} {w : World} (Z : Star H w [box g_0 117 #[v0_0,I r_.p]]) (h0_0 : (rS 5 RP.u8).rel H [v0_0] r_.b) (h1_0 : (rS 3 RP.int).rel H [v1_0] m.sizes) (h1_1 : (rS 49 (rRule 3 22)).rel H [v1_1] m.rules) {r : Model × Int} (hF : s_l6Mutate fu r_ m = some r) :
 C Tryz.prog 85 #[Pt g_0,.agg #[v1_0,v1_1]] w fun v w'=>∃ (u1 : Value) (u2 : Value),v = .agg #[u1,u2]∧Star H w' [oF 3 RP.int u1 r.1.sizes,oS 49 (oRule 3 22) u2 r.1.rules,box g_0 117 #[v0_0,I r.2]]:=by
 unfold s_l6Mutate at hF
 refine C_enter Tryz.func85 rfl Tryz.ntmps85 rfl (sq (L_box (v:=.agg #[v1_0,v1_1]) (cs:=#[v1_0,v1_1]) rfl rfl rfl Z (fun g5 w6 Z=>L_al (cs:=#[S0,S0]) rfl Tryz.zeroValue25 rfl Z (fun g7 w8 Z=>nq ?_))))
 obtain ⟨x14,hx14,hF⟩:=bind_some hF
 refine W_region (L_lda (cs:=[v1_0,v1_1]) rfl Tryz.isAgg25 Tryz.sizeOf25 rfl (At.sub0 (Blk.at (Star.blkAt 1 Z rfl)) 0 2) rfl ?_)
 obtain ⟨H21b,l22,s23,z24,k25⟩:=Z.borrow
 refine L_call rfl Tryz.call132 (ops1 rfl) (s_l6Copy_c (m:=m) s23 (RP.mono _ h1_0 l22) (RP.mono _ h1_1 l22) hx14) ?_
 rintro _ w26 ⟨r26_0,r26_1,rfl,Z⟩
 have Z:=k25 Z (co closed_int (co closed_oRule c0))
 refine L_al (cs:=#[S0,S0]) rfl Tryz.zeroValue25 rfl Z (fun g29 w30 Z=>L_staB (vs:=#[r26_0,r26_1]) (cs2:=#[r26_0,r26_1]) 0 rfl Tryz.sizeOf25 rfl rfl rfl (ones_cons (one_len (Star.len 1 Z rfl)) (ones_cons (one_len (Star.len 2 Z rfl)) ones_nil)) Z rfl (by show 0 + 2≤2; decide) rfl (fun w31 Z=>ns (fA 1 fa_25_1 rfl rfl (ldB 0 Z Tryz.isAgg23 rfl rfl rfl (L_len rfl Tryz.underlying23 rfl (Star.len 2 Z rfl) (aI rfl (nq (W_seq ?_))))))))
 obtain ⟨x37,hx37,hF⟩:=bind_some hF
 refine W_region (mV (Pt g_0) rfl ?_)
 have Z:=Z.get 5 rfl
 obtain ⟨H39b,l40,s41,z42,k43⟩:=Z.lend [_]
 refine L_call rfl Tryz.call63 (ops2 rfl rfl) (s_l17Rd_pick_c (r_:=r_) (n_:=50) s41 (RP.mono _ h0_0 l40) hx37) ?_
 rintro _ w44 ⟨rfl,Z⟩
 have Z:=k43 Z (cb c0)
 refine nn (W_block (sq (L_eql rfl rfl rfl (aB rfl (nn ?_)))))
 obtain ⟨j51,hA51,hF⟩:=bind_some hF
 obtain ⟨R51,hR51⟩:=exR fun f w_=>∃ g_0_1_45 : Int,∃ g29_0_46 : List Int,∃ g29_1_48 : List Rule,∃ H49 : FH,∃ v46_g29_0 : Value,j51 = .nx (g_0_1_45,g29_0_46,g29_1_48)∧Le H H49∧f 4 = Pt g7∧f 5 = Pt g29∧Star H49 w_ ([box g_0 117 #[v0_0,I g_0_1_45],oF 3 RP.int v46_g29_0 g29_0_46,oS 49 (oRule 3 22) r26_1 g29_1_48,box g29 25 #[v46_g29_0,r26_1],box g7 25 #[S0,S0]])
 refine W_join R51 ?_ ?_
 refine W_cond (b:=(x37.1 == 0)) rfl (fun hc52=>?_) (fun hc52=>?_)
 have hA51:=(ite_t hc52).symm.trans hA51
 refine sq (fA 0 fa_25_0 rfl rfl (ldB 1 Z Tryz.isAgg22 rfl rfl rfl (L_len rfl Tryz.underlying22 rfl (Star.len 2 Z rfl) (L_gtr rfl rfl rfl (nn ?_)))))
 obtain ⟨⟨g_0_1_53,g29_0_54⟩,hA57,hA51⟩:=bind_some hA51
 obtain ⟨R57,hR57⟩:=exR fun f w_=>∃ H55 : FH,Le H H55∧f 4 = Pt g7∧f 5 = Pt g29∧Star H55 w_ ([box g_0 117 #[v0_0,I g_0_1_53],oF 3 RP.int r26_0 g29_0_54,oS 49 (oRule 3 22) r26_1 x14.rules,box g29 25 #[r26_0,r26_1],box g7 25 #[S0,S0]])
 refine W_join R57 ?_ ?_
 refine W_cond (b:=decide ((x14.sizes.length : Int) > 0)) rfl (fun hc58=>?_) (fun hc58=>?_)
 have hA57:=(ite_t hc58).symm.trans hA57
 obtain ⟨x68,hx68,hA57⟩:=bind_some hA57
 obtain ⟨x70,hx70,hA57⟩:=bind_some hA57
 have Z:=Star.drop 5 Z rfl
 have Z:=Z.gets [4,4,4,4] rfl
 refine W_drawS 5 [isV (Pt g29),isV (r26_0),isV (Pt g_0),anyF,isV (I x68.1)] [box g29 25 #[r26_0,r26_1],oF 3 RP.int r26_0 x14.sizes,oS 49 (oRule 3 22) r26_1 x14.rules,box g7 25 #[S0,S0]] [.base (box g_0 117 #[v0_0,I x37.2]) (some 4),.made 3 23 (fun v_=>oF 3 RP.int v_ ([(-1),4,3,9223372036854775807])) none,.made 4 24 (fun v_=>box g_0 117 #[v0_0,I x68.2]) none] ([]) [([],[]),([],[]),([],[]),([],[1]),([0,1],[1,2])] (S:=[(none,[],some 4),(some 3,[23],none),(some 4,[24],none)]) Tryz_mix (by kernel_rfl) rfl (by kernel_rfl) (amF_cons (mono_V _) (amF_cons (mono_V _) (amF_cons (mono_V _) (amF_cons (mono_any) (amF_cons (mono_V _) amF_nil))))) Z ?_ (fun f w_ H74 hS74 hE74 hT74 Z=>?_)
 refine opsS_cons (fun f w_ _ _ s _ _ Z=>fA 0 fa_25_0 ((s 5 rfl).trans rfl) rfl (nO rfl rfl Z)) (opsS_cons (fun f w_ _ _ _ _ p Z=>ldB 0 Z Tryz.isAgg22 (p 0 20 rfl rfl) rfl rfl (nO rfl rfl Z)) (opsS_cons (fun f w_ _ _ s _ _ Z=>mF ((s 0 rfl).trans rfl) rfl (nO rfl rfl Z)) (opsS_cons ?_ ?_)))
 intro f w_ H74 X74 hS74 hE74 hP74 Z
 refine L_bs rfl (parts4 rfl rfl rfl rfl) (bs_22_4_0_0_0_0 (I (-1)) (I 4) (I 3) (I 9223372036854775807) rfl rfl rfl rfl) Z (fun g85 w86 Z=>?_)
 have Z:=litInts [(-1),4,3,9223372036854775807] 4 Z rfl rfl (by decide)
 have Z:=Z.gets [4,4,4,4] rfl
 exact L_nil ⟨rfl,_,_,rfl,Le.refl _,fun _ _=>trivial,Z⟩
 refine opsS_cons ?_ ?_
 intro f w_ H74 X74 hS74 hE74 hP74 Z
 have Z : Star H74 w_ (box g29 25 #[r26_0,r26_1] :: oF 3 RP.int r26_0 x14.sizes :: oS 49 (oRule 3 22) r26_1 x14.rules :: box g7 25 #[S0,S0] :: box g_0 117 #[v0_0,I x37.2] :: oF 3 RP.int (f 23) ([(-1),4,3,9223372036854775807]) :: X74):=Z
 have Z:=Z.get 4 rfl
 obtain ⟨H89b,l90,s91,z92,k93⟩:=Z.lend [_]
 have hb94 : (rS 3 RP.int).rel H89b [(f 23)] ([(-1),4,3,9223372036854775807]):=fz_own 4 z92 rfl
 refine L_call rfl Tryz.call64 (ops2 (hP74 2 22 rfl rfl) rfl) (s_l17Rd_num_c (r_:=({ b:=r_.b,p:=x37.2 } : Rd)) (list:=[(-1),4,3,9223372036854775807]) s91 (RP.mono _ h0_0 (Le.trans hE74 l90)) hb94 hx68) ?_
 rintro _ w95 ⟨rfl,Z⟩
 have Z:=k93 Z (cb c0)
 have Z:=Z.gets [5,5,5,5,5] rfl
 exact L_nil ⟨rfl,_,_,rfl,Le.refl _,fun _ _=>rfl,Z⟩
 exact opsS_nil
 have Z : Star H74 w_ ([box g29 25 #[r26_0,r26_1],oF 3 RP.int r26_0 x14.sizes,oS 49 (oRule 3 22) r26_1 x14.rules,box g7 25 #[S0,S0],oF 3 RP.int (f 23) ([(-1),4,3,9223372036854775807]),box g_0 117 #[v0_0,I x68.2]]):=Z
 obtain ⟨g96,cap_g96,hv97,_,_⟩:=Star.row 1 Z rfl hx70
 refine L_ixO (R:=(OR.frz RP.int)) (tb:=0) 0 rfl Tryz.underlying22 Tryz.sizeOf3 (hT74 1 21 rfl rfl) hv97 (by first | rfl | simp) rfl hx70 ?_
 have Z:=Star.addF (r:=RP.int) (cs:=[I x68.1]) (x:=x68.1) Z rfl
 have Z:=Z.gets [2,1] rfl
 refine L_stE1 (u:=I x68.1) rfl Tryz.sizeOf3 rfl rfl (hT74 4 24 rfl rfl) hv97 Z hx70 (fun w98 Z=>?_)
 refine nn ?_
 obtain ⟨rfl,rfl⟩:=so2 hA57
 have Z:=Z.gets [3,2,3,3,5] rfl
 exact rj hR57 ⟨H74,hE74,((hS74 4 rfl).trans rfl),((hS74 5 rfl).trans rfl),(Star.keepN 5 Z)⟩
 have hA57:=(ite_f hc58).symm.trans hA57
 refine W_skip ?_
 obtain ⟨rfl,rfl⟩:=so2 hA57
 have Z:=Z.gets [4,2,4,4,4] rfl
 exact rj hR57 ⟨H,(Le.refl _),rfl,rfl,(Star.keepN 5 Z)⟩
 intro f w_ hR
 obtain ⟨H55,l56,sf4,sf5,Z⟩:=rk hR57 hR
 obtain rfl:=so hA51
 exact rj hR51 ⟨g_0_1_53,g29_0_54,x14.rules,H55,r26_0,rfl,l56,sf4,sf5,Z⟩
 have hA51:=(ite_f hc52).symm.trans hA51
 refine sq (L_eql rfl rfl rfl (aB rfl (nn ?_)))
 obtain ⟨j105,hA105,hA51⟩:=bind_some hA51
 obtain ⟨R105,hR105⟩:=exR fun f w_=>∃ g_0_1_99 : Int,∃ g29_0_100 : List Int,∃ g29_1_102 : List Rule,∃ H103 : FH,∃ v100_g29_0 : Value,j105 = .nx (g_0_1_99,g29_0_100,g29_1_102)∧Le H H103∧f 4 = Pt g7∧f 5 = Pt g29∧Star H103 w_ ([box g_0 117 #[v0_0,I g_0_1_99],oF 3 RP.int v100_g29_0 g29_0_100,oS 49 (oRule 3 22) r26_1 g29_1_102,box g29 25 #[v100_g29_0,r26_1],box g7 25 #[S0,S0]])
 refine W_join R105 ?_ ?_
 refine W_cond (b:=(x37.1 == 1)) rfl (fun hc106=>?_) (fun hc106=>?_)
 have hA105:=(ite_t hc106).symm.trans hA105
 obtain ⟨j110,hL110,hA105⟩:=bind_some hA105
 obtain ⟨R110,hR110⟩:=exR fun f w_=>∃ g29_0_108 : List Int,∃ v108_g29_0 : Value,j110 = .nx g29_0_108∧f 4 = Pt g7∧f 5 = Pt g29∧Star H w_ ([box g_0 117 #[v0_0,I x37.2],oF 3 RP.int v108_g29_0 g29_0_108,oS 49 (oRule 3 22) r26_1 x14.rules,box g29 25 #[v108_g29_0,r26_1],box g7 25 #[S0,S0]])
 refine W_join R110 ?_ ?_
 refine W_block ?_
 obtain ⟨I110,hI110⟩:=exI fun n f w_=>∃ g29_0_108 : List Int,∃ v108_g29_0 : Value,whileL s_l6Mutate_b1 n g29_0_108 = some j110∧f 4 = Pt g7∧f 5 = Pt g29∧Star H w_ ([box g_0 117 #[v0_0,I x37.2],oF 3 RP.int v108_g29_0 g29_0_108,oS 49 (oRule 3 22) r26_1 x14.rules,box g29 25 #[v108_g29_0,r26_1],box g7 25 #[S0,S0]])
 have Z:=Z.gets [4,2,4,4,4] rfl
 refine W_loop I110 (n:=fu) ?_ ?_
 exact ij hI110 ⟨x14.sizes,r26_0,hL110,rfl,rfl,(Star.keepN 5 Z)⟩
 intro n110 f w_ hI
 obtain ⟨g29_0_108,v108_g29_0,hL110,sf4,sf5,Z⟩:=ik hI110 hI
 rcases n110 with _ | n110
 exact (while_zero hL110).elim
 obtain ⟨o110,hB110,hL110⟩:=while_succ hL110
 rw [s_l6Mutate_b1] at hB110
 refine W_seq (sq (fA 0 fa_25_0 sf5 rfl (ldB 3 Z Tryz.isAgg22 rfl rfl rfl (L_len rfl Tryz.underlying22 rfl (Star.len 1 Z rfl) (L_leq rfl rfl rfl (nn (W_cond (b:=decide ((g29_0_108.length : Int)≤5)) rfl (fun hc111=>?_) (fun hc111=>?_))))))))
 have hB110:=(ite_t hc111).symm.trans hB110
 refine W_skip (W_block ?_)
 obtain ⟨x115,hx115,hB110⟩:=bind_some hB110
 refine W_region (fA 0 fa_25_0 sf5 rfl (ldB 3 Z Tryz.isAgg22 rfl rfl rfl (L_bs rfl (parts1 rfl) (bs_22_1_0 (I 0) rfl) Z (fun g120 w121 Z=>?_))))
 have Z:=litInts [0] 1 Z rfl rfl (by decide)
 have Z:=Z.get 2 rfl
 refine L_appM (v:=v108_g29_0) (u:=(Sl g120 1 1)) rfl et_22 rfl rfl Z hx115 (fun v123 w124 Z=>fA 0 fa_25_0 sf5 rfl (L_stB (v:=v123) (cs2:=#[v123,r26_1]) 3 rfl Tryz.sizeOf22 rfl rfl (one_len (Star.len 0 Z rfl)) Z rfl rfl rfl (fun w126 Z=>nn ?_)))
 obtain rfl:=so hB110
 have Z:=Z.gets [4,1,4,3,4] rfl
 show ∃ m,m < _∧I110 m _ _
 refine ⟨n110,Nat.lt_succ_self _,?_⟩
 exact ij hI110 ⟨x115,v123,hL110,sf4,sf5,Z⟩
 have hB110:=(ite_f hc111).symm.trans hB110
 refine W_exit ?_
 obtain rfl:=so hB110
 obtain rfl:=so hL110
 exact rj hR110 ⟨g29_0_108,v108_g29_0,rfl,sf4,sf5,Z⟩
 intro f w_ hR
 obtain ⟨g29_0_108,v108_g29_0,rfl,sf4,sf5,Z⟩:=rk hR110 hR
 obtain rfl:=so hA105
 exact rj hR105 ⟨x37.2,g29_0_108,x14.rules,H,v108_g29_0,rfl,(Le.refl _),sf4,sf5,Z⟩
 have hA105:=(ite_f hc106).symm.trans hA105
 refine sq (L_eql rfl rfl rfl (aB rfl (nn ?_)))
 obtain ⟨j131,hA131,hA105⟩:=bind_some hA105
 obtain ⟨R131,hR131⟩:=exR fun f w_=>∃ g_0_1_127 : Int,∃ g29_1_128 : List Rule,∃ H129 : FH,j131 = .nx (g_0_1_127,g29_1_128)∧Le H H129∧f 4 = Pt g7∧f 5 = Pt g29∧Star H129 w_ ([box g_0 117 #[v0_0,I g_0_1_127],oF 3 RP.int r26_0 x14.sizes,oS 49 (oRule 3 22) r26_1 g29_1_128,box g29 25 #[r26_0,r26_1],box g7 25 #[S0,S0]])
 refine W_join R131 ?_ ?_
 refine W_cond (b:=(x37.1 == 2)) rfl (fun hc132=>?_) (fun hc132=>?_)
 have hA131:=(ite_t hc132).symm.trans hA131
 refine sq (mI rfl (L_gtr rfl rfl rfl (nn ?_)))
 obtain ⟨⟨g_0_1_133,g29_1_134⟩,hA137,hA131⟩:=bind_some hA131
 obtain ⟨R137,hR137⟩:=exR fun f w_=>∃ H135 : FH,Le H H135∧f 4 = Pt g7∧f 5 = Pt g29∧Star H135 w_ ([box g_0 117 #[v0_0,I g_0_1_133],oF 3 RP.int r26_0 x14.sizes,oS 49 (oRule 3 22) r26_1 g29_1_134,box g29 25 #[r26_0,r26_1],box g7 25 #[S0,S0]])
 refine W_join R137 ?_ ?_
 refine W_cond (b:=decide ((x14.rules.length : Int) > 0)) rfl (fun hc138=>?_) (fun hc138=>?_)
 have hA137:=(ite_t hc138).symm.trans hA137
 obtain ⟨x148,hx148,hA137⟩:=bind_some hA137
 obtain ⟨x150,hx150,hA137⟩:=bind_some hA137
 have Z:=Star.drop 5 Z rfl
 have Z:=Z.gets [4,4,4,4] rfl
 refine W_drawS 5 [isV (Pq g29 1),isV (r26_1),isV (Pt g_0),anyF,isV (I x148.1)] [box g29 25 #[r26_0,r26_1],oF 3 RP.int r26_0 x14.sizes,oS 49 (oRule 3 22) r26_1 x14.rules,box g7 25 #[S0,S0]] [.base (box g_0 117 #[v0_0,I x37.2]) (some 4),.made 3 44 (fun v_=>oF 3 RP.int v_ ([0,5,1,2,3])) none,.made 4 45 (fun v_=>box g_0 117 #[v0_0,I x148.2]) none] ([]) [([],[]),([],[]),([],[]),([],[1]),([0,1],[1,2])] (S:=[(none,[],some 4),(some 3,[44],none),(some 4,[45],none)]) Tryz_mix (by kernel_rfl) rfl (by kernel_rfl) (amF_cons (mono_V _) (amF_cons (mono_V _) (amF_cons (mono_V _) (amF_cons (mono_any) (amF_cons (mono_V _) amF_nil))))) Z ?_ (fun f w_ H154 hS154 hE154 hT154 Z=>?_)
 refine opsS_cons (fun f w_ _ _ s _ _ Z=>fA 1 fa_25_1 ((s 5 rfl).trans rfl) rfl (nO rfl rfl Z)) (opsS_cons (fun f w_ _ _ _ _ p Z=>ldB 0 Z Tryz.isAgg23 (p 0 41 rfl rfl) rfl rfl (nO rfl rfl Z)) (opsS_cons (fun f w_ _ _ s _ _ Z=>mF ((s 0 rfl).trans rfl) rfl (nO rfl rfl Z)) (opsS_cons ?_ ?_)))
 intro f w_ H154 X154 hS154 hE154 hP154 Z
 refine L_bs rfl (parts5 rfl rfl rfl rfl rfl) (bs_22_5_0_0_0_0_0 (I 0) (I 5) (I 1) (I 2) (I 3) rfl rfl rfl rfl rfl) Z (fun g165 w166 Z=>?_)
 have Z:=litInts [0,5,1,2,3] 5 Z rfl rfl (by decide)
 have Z:=Z.gets [4,4,4,4] rfl
 exact L_nil ⟨rfl,_,_,rfl,Le.refl _,fun _ _=>trivial,Z⟩
 refine opsS_cons ?_ ?_
 intro f w_ H154 X154 hS154 hE154 hP154 Z
 have Z : Star H154 w_ (box g29 25 #[r26_0,r26_1] :: oF 3 RP.int r26_0 x14.sizes :: oS 49 (oRule 3 22) r26_1 x14.rules :: box g7 25 #[S0,S0] :: box g_0 117 #[v0_0,I x37.2] :: oF 3 RP.int (f 44) ([0,5,1,2,3]) :: X154):=Z
 have Z:=Z.get 4 rfl
 obtain ⟨H169b,l170,s171,z172,k173⟩:=Z.lend [_]
 have hb174 : (rS 3 RP.int).rel H169b [(f 44)] ([0,5,1,2,3]):=fz_own 4 z172 rfl
 refine L_call rfl Tryz.call64 (ops2 (hP154 2 43 rfl rfl) rfl) (s_l17Rd_num_c (r_:=({ b:=r_.b,p:=x37.2 } : Rd)) (list:=[0,5,1,2,3]) s171 (RP.mono _ h0_0 (Le.trans hE154 l170)) hb174 hx148) ?_
 rintro _ w175 ⟨rfl,Z⟩
 have Z:=k173 Z (cb c0)
 have Z:=Z.gets [5,5,5,5,5] rfl
 exact L_nil ⟨rfl,_,_,rfl,Le.refl _,fun _ _=>rfl,Z⟩
 exact opsS_nil
 have Z : Star H154 w_ ([box g29 25 #[r26_0,r26_1],oF 3 RP.int r26_0 x14.sizes,oS 49 (oRule 3 22) r26_1 x14.rules,box g7 25 #[S0,S0],oF 3 RP.int (f 44) ([0,5,1,2,3]),box g_0 117 #[v0_0,I x148.2]]):=Z
 obtain ⟨g176,cap_g176,hv177,_,_⟩:=Star.row 2 Z rfl hx150
 refine L_ixO (R:=(oRule 3 22)) (tb:=0) 0 rfl Tryz.underlying23 Tryz.sizeOf49 (hT154 1 42 rfl rfl) hv177 (by first | rfl | simp) rfl hx150 (fA (Int.toNat 0 * 5 + 0) fa_49_0 rfl rfl ?_)
 have Z:=Z.get 2 rfl
 refine L_stF (j:=0) (u:=I x148.1) (z:={ x150 with kind:=x148.1 }) rfl Tryz.sizeOf3 rfl rfl (hT154 4 45 rfl rfl) rfl hv177 Z hx150 fld_oRule_0 (fun w178 Z=>nn ?_)
 obtain ⟨rfl,rfl⟩:=so2 hA137
 have Z:=Z.gets [3,2,2,3,5] rfl
 exact rj hR137 ⟨H154,hE154,((hS154 4 rfl).trans rfl),((hS154 5 rfl).trans rfl),(Star.keepN 5 Z)⟩
 have hA137:=(ite_f hc138).symm.trans hA137
 refine W_skip ?_
 obtain ⟨rfl,rfl⟩:=so2 hA137
 have Z:=Z.gets [4,2,4,4,4] rfl
 exact rj hR137 ⟨H,(Le.refl _),rfl,rfl,(Star.keepN 5 Z)⟩
 intro f w_ hR
 obtain ⟨H135,l136,sf4,sf5,Z⟩:=rk hR137 hR
 obtain rfl:=so hA131
 exact rj hR131 ⟨g_0_1_133,g29_1_134,H135,rfl,l136,sf4,sf5,Z⟩
 have hA131:=(ite_f hc132).symm.trans hA131
 refine sq (L_eql rfl rfl rfl (aB rfl (nn ?_)))
 obtain ⟨j183,hA183,hA131⟩:=bind_some hA131
 obtain ⟨R183,hR183⟩:=exR fun f w_=>∃ g_0_1_179 : Int,∃ g29_1_180 : List Rule,∃ H181 : FH,j183 = .nx (g_0_1_179,g29_1_180)∧Le H H181∧f 4 = Pt g7∧f 5 = Pt g29∧Star H181 w_ ([box g_0 117 #[v0_0,I g_0_1_179],oF 3 RP.int r26_0 x14.sizes,oS 49 (oRule 3 22) r26_1 g29_1_180,box g29 25 #[r26_0,r26_1],box g7 25 #[S0,S0]])
 refine W_join R183 ?_ ?_
 refine W_cond (b:=(x37.1 == 3)) rfl (fun hc184=>?_) (fun hc184=>?_)
 have hA183:=(ite_t hc184).symm.trans hA183
 refine W_seq ?_
 obtain ⟨b189,hb189,hA183⟩:=bind_some hA183
 obtain ⟨R190,hR190⟩:=exR fun f w_=>f 0 = Pt g_0∧f 4 = Pt g7∧f 5 = Pt g29∧f 6 = I (x14.rules.length : Int)∧f 62 = Bo b189∧Star H w_ ([box g_0 117 #[v0_0,I x37.2],oF 3 RP.int r26_0 x14.sizes,oS 49 (oRule 3 22) r26_1 x14.rules,box g29 25 #[r26_0,r26_1],box g7 25 #[S0,S0]])
 refine W_join R190 ?_ ?_
 refine W_region (mI rfl (L_gtr rfl rfl rfl (mB rfl (L_split (d:=52) (b:=decide ((x14.rules.length : Int) > 0)) rfl (fun hc191=>?_) (fun hc191=>?_)))))
 rw [ite_t hc191] at hb189
 obtain ⟨x185,hx185,hb189⟩:=bind_some hb189
 refine fA 1 fa_25_1 rfl rfl (ldB 1 Z Tryz.isAgg23 rfl rfl rfl (mI rfl (L_sub rfl rfl rfl ?_)))
 obtain ⟨g192,cap_g192,hv193,_,_⟩:=Star.row 3 Z rfl hx185
 refine L_ixO (R:=(oRule 3 22)) (tb:=0) 0 rfl Tryz.underlying23 Tryz.sizeOf49 rfl hv193 (by first | rfl | simp) rfl hx185 (fA (Int.toNat (i64 ((x14.rules.length : Int) - 1)) * 5 + 1) fa_49_1 rfl rfl ?_)
 obtain ⟨G194,cs194,hr194,hat194⟩:=Star.elt 3 Z rfl hv193 hx185
 obtain ⟨u194_1,u194_2,u194_4,rfl,ln194_1,ln194_2,ln194_4⟩:=oRule_lens hr194
 refine L_ld rfl Tryz.isAgg22 rfl (At.cell hat194 (j:=1) rfl) (L_len rfl Tryz.underlying22 rfl ln194_1 (L_gtr rfl rfl rfl (L_pick (v:=Bo b189) rfl rfl (congrArg Value.bool (so hb189)) (nn ?_))))
 have Z:=Z.gets [4,2,4,4,4] rfl
 exact rj hR190 ⟨rfl,rfl,rfl,rfl,rfl,(Star.keepN 5 Z)⟩
 rw [ite_f hc191] at hb189
 refine ps rfl (ps rfl (ps rfl (ps rfl (ps rfl (ps rfl (ps rfl (ps rfl (ps rfl (L_pick (v:=Bo b189) rfl rfl (congrArg Value.bool (so hb189)) (nn ?_))))))))))
 have Z:=Z.gets [4,2,4,4,4] rfl
 exact rj hR190 ⟨rfl,rfl,rfl,rfl,rfl,(Star.keepN 5 Z)⟩
 intro f w_ hR
 obtain ⟨sf0,sf4,sf5,sf6,sf62,Z⟩:=rk hR190 hR
 obtain ⟨⟨g_0_1_195,g29_1_196⟩,hA199,hA183⟩:=bind_some hA183
 obtain ⟨R199,hR199⟩:=exR fun f w_=>∃ H197 : FH,Le H H197∧f 4 = Pt g7∧f 5 = Pt g29∧Star H197 w_ ([box g_0 117 #[v0_0,I g_0_1_195],oF 3 RP.int r26_0 x14.sizes,oS 49 (oRule 3 22) r26_1 g29_1_196,box g29 25 #[r26_0,r26_1],box g7 25 #[S0,S0]])
 refine W_join R199 ?_ ?_
 refine W_cond (b:=b189) sf62 (fun hc200=>?_) (fun hc200=>?_)
 have hA199:=(ite_t hc200).symm.trans hA199
 obtain ⟨x201,hx201,hA199⟩:=bind_some hA199
 obtain ⟨x217,hx217,hA199⟩:=bind_some hA199
 obtain ⟨x219,hx219,hA199⟩:=bind_some hA199
 obtain ⟨g224,cap_g224,hv225,_,_⟩:=Star.row 2 Z rfl hx201
 have Z:=Z.gets [2,1,4,4,4] rfl
 refine W_drawS 10 [isV (Pq g29 1),isV (r26_1),isV (I (x14.rules.length : Int)),isV (I (i64 ((x14.rules.length : Int) - 1))),isV (.pointer (some ⟨g224,Int.toNat (i64 ((x14.rules.length : Int) - 1)) * 5,none⟩)),isV (.pointer (some ⟨g224,Int.toNat (i64 ((x14.rules.length : Int) - 1)) * 5 + 1,none⟩)),anyF,isV (Pt g_0),anyF,isV (I x217.1)] [oF 3 RP.int r26_0 x14.sizes,box g29 25 #[r26_0,r26_1],box g7 25 #[S0,S0]] [.base (box g_0 117 #[v0_0,I x37.2]) (some 9),.base (oS 49 (oRule 3 22) r26_1 x14.rules) (some 6),.made 6 69 (fun v_=>packA (fun (u_ : Value × Value)=>[hole 49 (oRule 3 22) r26_1 x14.rules (Int.toNat (i64 ((x14.rules.length : Int) - 1))) [I x201.kind,v_,u_.1,I x201.bound,u_.2],oF 3 RP.int u_.1 x201.coefs,own (OR.ownS 22 (OR.ownS 3 (OR.frz RP.int))) [u_.2] x201.rows])) none,.made 6 69 (fun v_=>oF 3 RP.int v_ x201.vars) none,.made 8 71 (fun v_=>oF 3 RP.int v_ ([(-1),5,1,0])) none,.made 9 72 (fun v_=>box g_0 117 #[v0_0,I x217.2]) none] ([]) [([],[]),([],[]),([],[]),([],[]),([1],[1]),([],[]),([1],[2,3]),([],[]),([],[4]),([0,4],[4,5])] (S:=[(none,[],some 9),(none,[],some 6),(some 6,[69],none),(some 6,[69],none),(some 8,[71],none),(some 9,[72],none)]) Tryz_mix (by kernel_rfl) rfl (by kernel_rfl) (amF_cons (mono_V _) (amF_cons (mono_V _) (amF_cons (mono_V _) (amF_cons (mono_V _) (amF_cons (mono_V _) (amF_cons (mono_V _) (amF_cons (mono_any) (amF_cons (mono_V _) (amF_cons (mono_any) (amF_cons (mono_V _) amF_nil)))))))))) Z ?_ (fun f w_ H223 hS223 hE223 hT223 Z=>?_)
 refine opsS_cons (fun f w_ _ _ s _ _ Z=>fA 1 fa_25_1 ((s 5 rfl).trans sf5) rfl (nO rfl rfl Z)) (opsS_cons (fun f w_ _ _ _ _ p Z=>ldB 1 Z Tryz.isAgg23 (p 0 63 rfl rfl) rfl rfl (nO rfl rfl Z)) (opsS_cons (fun f w_ _ _ s _ _ Z=>mF ((s 6 rfl).trans sf6) rfl (nO rfl rfl Z)) (opsS_cons (fun f w_ _ _ _ _ p Z=>L_sub rfl (p 2 65 rfl rfl) rfl (nO rfl rfl Z)) (opsS_cons ?_ ?_))))
 intro f w_ H223 X223 hS223 hE223 hP223 Z
 have Z : Star H223 w_ (oF 3 RP.int r26_0 x14.sizes :: box g29 25 #[r26_0,r26_1] :: box g7 25 #[S0,S0] :: oS 49 (oRule 3 22) r26_1 x14.rules :: X223):=Z
 refine L_ixO (R:=(oRule 3 22)) (tb:=0) 0 rfl Tryz.underlying23 Tryz.sizeOf49 (hP223 1 64 rfl rfl) hv225 (by first | rfl | simp) (hP223 3 66 rfl rfl) hx201 (L_nil ⟨rfl,_,_,rfl,Le.refl _,fun _ _=>rfl,Z⟩)
 refine opsS_cons (fun f w_ _ _ _ _ p Z=>fA (Int.toNat (i64 ((x14.rules.length : Int) - 1)) * 5 + 1) fa_49_1 (p 4 67 rfl rfl) rfl (nO rfl rfl Z)) (opsS_cons ?_ ?_)
 intro f w_ H223 X223 hS223 hE223 hP223 Z
 have Z : Star H223 w_ (oF 3 RP.int r26_0 x14.sizes :: box g29 25 #[r26_0,r26_1] :: box g7 25 #[S0,S0] :: oS 49 (oRule 3 22) r26_1 x14.rules :: X223):=Z
 have Z:=Z.get 3 rfl
 obtain ⟨cs240,Z,hat240⟩:=Star.focus Z hx201
 have hat240:=hat240 _ _ _ hv225
 obtain ⟨u240_0,u240_1,u240_2,rfl,Z⟩:=oRule_open Z
 refine L_ld rfl Tryz.isAgg22 (hP223 5 68 rfl rfl) (At.cell hat240 (j:=1) rfl) ?_
 have Z:=Z.gets [2,2,3] rfl
 have Z:=Star.pack (fun (u_ : Value × Value)=>[hole 49 (oRule 3 22) r26_1 x14.rules (Int.toNat (i64 ((x14.rules.length : Int) - 1))) [I x201.kind,u240_0,u_.1,I x201.bound,u_.2],oF 3 RP.int u_.1 x201.coefs,own (OR.ownS 22 (OR.ownS 3 (OR.frz RP.int))) [u_.2] x201.rows]) (u240_1,u240_2) Z
 have Z:=Z.gets [1,1,4,4,4] rfl
 exact L_nil ⟨rfl,_,_,rfl,Le.refl _,fun _ _=>trivial,Z⟩
 refine opsS_cons (fun f w_ _ _ s _ _ Z=>mF ((s 0 rfl).trans sf0) rfl (nO rfl rfl Z)) (opsS_cons ?_ ?_)
 intro f w_ H223 X223 hS223 hE223 hP223 Z
 refine L_bs rfl (parts4 rfl rfl rfl rfl) (bs_22_4_0_0_0_0 (I (-1)) (I 5) (I 1) (I 0) rfl rfl rfl rfl) Z (fun g244 w245 Z=>?_)
 have Z:=litInts [(-1),5,1,0] 4 Z rfl rfl (by decide)
 have Z:=Z.gets [3,3,3] rfl
 exact L_nil ⟨rfl,_,_,rfl,Le.refl _,fun _ _=>trivial,Z⟩
 refine opsS_cons ?_ ?_
 intro f w_ H223 X223 hS223 hE223 hP223 Z
 have Z : Star H223 w_ (oF 3 RP.int r26_0 x14.sizes :: box g29 25 #[r26_0,r26_1] :: box g7 25 #[S0,S0] :: box g_0 117 #[v0_0,I x37.2] :: oF 3 RP.int (f 71) ([(-1),5,1,0]) :: X223):=Z
 have Z:=Z.get 3 rfl
 obtain ⟨H248b,l249,s250,z251,k252⟩:=Z.lend [_]
 have hb253 : (rS 3 RP.int).rel H248b [(f 71)] ([(-1),5,1,0]):=fz_own 3 z251 rfl
 refine L_call rfl Tryz.call64 (ops2 (hP223 7 70 rfl rfl) rfl) (s_l17Rd_num_c (r_:=({ b:=r_.b,p:=x37.2 } : Rd)) (list:=[(-1),5,1,0]) s250 (RP.mono _ h0_0 (Le.trans hE223 l249)) hb253 hx217) ?_
 rintro _ w254 ⟨rfl,Z⟩
 have Z:=k252 Z (cb c0)
 have Z:=Z.gets [4,4,4,4] rfl
 exact L_nil ⟨rfl,_,_,rfl,Le.refl _,fun _ _=>rfl,Z⟩
 exact opsS_nil
 have Z : Star H223 w_ ([oF 3 RP.int r26_0 x14.sizes,box g29 25 #[r26_0,r26_1],box g7 25 #[S0,S0],packA (fun (u_ : Value × Value)=>[hole 49 (oRule 3 22) r26_1 x14.rules (Int.toNat (i64 ((x14.rules.length : Int) - 1))) [I x201.kind,(f 69),u_.1,I x201.bound,u_.2],oF 3 RP.int u_.1 x201.coefs,own (OR.ownS 22 (OR.ownS 3 (OR.frz RP.int))) [u_.2] x201.rows]),oF 3 RP.int (f 69) x201.vars,oF 3 RP.int (f 71) ([(-1),5,1,0]),box g_0 117 #[v0_0,I x217.2]]):=Z
 have Z:=Z.get 3 rfl
 obtain ⟨⟨u255_0,u256_1⟩,Z⟩:=Star.unpack Z
 have Z : Star H223 w_ ([hole 49 (oRule 3 22) r26_1 x14.rules (Int.toNat (i64 ((x14.rules.length : Int) - 1))) [I x201.kind,(f 69),u255_0,I x201.bound,u256_1],oF 3 RP.int u255_0 x201.coefs,own (OR.ownS 22 (OR.ownS 3 (OR.frz RP.int))) [u256_1] x201.rows,oF 3 RP.int r26_0 x14.sizes,box g29 25 #[r26_0,r26_1],box g7 25 #[S0,S0],oF 3 RP.int (f 69) x201.vars,oF 3 RP.int (f 71) ([(-1),5,1,0]),box g_0 117 #[v0_0,I x217.2]]):=Z
 obtain ⟨g258,cap_g258,hv259,_,_⟩:=Star.row 6 Z rfl hx219
 refine L_ixO (R:=(OR.frz RP.int)) (tb:=0) 0 rfl Tryz.underlying22 Tryz.sizeOf3 rfl hv259 (by first | rfl | simp) rfl hx219 ?_
 have Z:=Star.addF (r:=RP.int) (cs:=[I x217.1]) (x:=x217.1) Z rfl
 have Z:=Z.gets [7,1] rfl
 refine L_stE1 (u:=I x217.1) rfl Tryz.sizeOf3 rfl rfl (hT223 9 72 rfl rfl) hv259 Z hx219 (fun w260 Z=>?_)
 refine nn ?_
 obtain ⟨rfl,rfl⟩:=so2 hA199
 have Z:=Z.gets [1,3,3,3] rfl
 have Z:=oRule_close (r:=({ kind:=x201.kind,vars:=(x201.vars.set (Int.toNat 0) x217.1),coefs:=x201.coefs,bound:=x201.bound,rows:=x201.rows } : Rule)) Z
 have Z:=Star.unfocus (x':=({ kind:=x201.kind,vars:=(x201.vars.set (Int.toNat 0) x217.1),coefs:=x201.coefs,bound:=x201.bound,rows:=x201.rows } : Rule)) (idx_some hx201).2.2 Z
 have Z:=Z.gets [3,3,2,3,5] rfl
 exact rj hR199 ⟨H223,hE223,((hS223 4 rfl).trans sf4),((hS223 5 rfl).trans sf5),(Star.keepN 5 Z)⟩
 have hA199:=(ite_f hc200).symm.trans hA199
 refine W_skip ?_
 obtain ⟨rfl,rfl⟩:=so2 hA199
 exact rj hR199 ⟨H,(Le.refl _),sf4,sf5,Z⟩
 intro f w_ hR
 obtain ⟨H197,l198,sf4,sf5,Z⟩:=rk hR199 hR
 obtain rfl:=so hA183
 exact rj hR183 ⟨g_0_1_195,g29_1_196,H197,rfl,l198,sf4,sf5,Z⟩
 have hA183:=(ite_f hc184).symm.trans hA183
 refine sq (L_eql rfl rfl rfl (aB rfl (nn ?_)))
 obtain ⟨j265,hA265,hA183⟩:=bind_some hA183
 obtain ⟨R265,hR265⟩:=exR fun f w_=>∃ g_0_1_261 : Int,∃ g29_1_262 : List Rule,∃ H263 : FH,j265 = .nx (g_0_1_261,g29_1_262)∧Le H H263∧f 4 = Pt g7∧f 5 = Pt g29∧Star H263 w_ ([box g_0 117 #[v0_0,I g_0_1_261],oF 3 RP.int r26_0 x14.sizes,oS 49 (oRule 3 22) r26_1 g29_1_262,box g29 25 #[r26_0,r26_1],box g7 25 #[S0,S0]])
 refine W_join R265 ?_ ?_
 refine W_cond (b:=(x37.1 == 4)) rfl (fun hc266=>?_) (fun hc266=>?_)
 have hA265:=(ite_t hc266).symm.trans hA265
 refine sq (mI rfl (L_gtr rfl rfl rfl (nn ?_)))
 obtain ⟨⟨g_0_1_267,g29_1_268⟩,hA271,hA265⟩:=bind_some hA265
 obtain ⟨R271,hR271⟩:=exR fun f w_=>∃ H269 : FH,Le H H269∧f 4 = Pt g7∧f 5 = Pt g29∧Star H269 w_ ([box g_0 117 #[v0_0,I g_0_1_267],oF 3 RP.int r26_0 x14.sizes,oS 49 (oRule 3 22) r26_1 g29_1_268,box g29 25 #[r26_0,r26_1],box g7 25 #[S0,S0]])
 refine W_join R271 ?_ ?_
 refine W_cond (b:=decide ((x14.rules.length : Int) > 0)) rfl (fun hc272=>?_) (fun hc272=>?_)
 have hA271:=(ite_t hc272).symm.trans hA271
 obtain ⟨x282,hx282,hA271⟩:=bind_some hA271
 obtain ⟨x284,hx284,hA271⟩:=bind_some hA271
 have Z:=Star.drop 5 Z rfl
 have Z:=Z.gets [4,4,4,4] rfl
 refine W_drawS 5 [isV (Pq g29 1),isV (r26_1),isV (Pt g_0),anyF,isV (I x282.1)] [box g29 25 #[r26_0,r26_1],oF 3 RP.int r26_0 x14.sizes,oS 49 (oRule 3 22) r26_1 x14.rules,box g7 25 #[S0,S0]] [.base (box g_0 117 #[v0_0,I x37.2]) (some 4),.made 3 81 (fun v_=>oF 3 RP.int v_ ([1001,(-1001),1000])) none,.made 4 82 (fun v_=>box g_0 117 #[v0_0,I x282.2]) none] ([]) [([],[]),([],[]),([],[]),([],[1]),([0,1],[1,2])] (S:=[(none,[],some 4),(some 3,[81],none),(some 4,[82],none)]) Tryz_mix (by kernel_rfl) rfl (by kernel_rfl) (amF_cons (mono_V _) (amF_cons (mono_V _) (amF_cons (mono_V _) (amF_cons (mono_any) (amF_cons (mono_V _) amF_nil))))) Z ?_ (fun f w_ H288 hS288 hE288 hT288 Z=>?_)
 refine opsS_cons (fun f w_ _ _ s _ _ Z=>fA 1 fa_25_1 ((s 5 rfl).trans rfl) rfl (nO rfl rfl Z)) (opsS_cons (fun f w_ _ _ _ _ p Z=>ldB 0 Z Tryz.isAgg23 (p 0 78 rfl rfl) rfl rfl (nO rfl rfl Z)) (opsS_cons (fun f w_ _ _ s _ _ Z=>mF ((s 0 rfl).trans rfl) rfl (nO rfl rfl Z)) (opsS_cons ?_ ?_)))
 intro f w_ H288 X288 hS288 hE288 hP288 Z
 refine L_bs rfl (parts3 rfl rfl rfl) (bs_22_3_0_0_0 (I 1001) (I (-1001)) (I 1000) rfl rfl rfl) Z (fun g299 w300 Z=>?_)
 have Z:=litInts [1001,(-1001),1000] 3 Z rfl rfl (by decide)
 have Z:=Z.gets [4,4,4,4] rfl
 exact L_nil ⟨rfl,_,_,rfl,Le.refl _,fun _ _=>trivial,Z⟩
 refine opsS_cons ?_ ?_
 intro f w_ H288 X288 hS288 hE288 hP288 Z
 have Z : Star H288 w_ (box g29 25 #[r26_0,r26_1] :: oF 3 RP.int r26_0 x14.sizes :: oS 49 (oRule 3 22) r26_1 x14.rules :: box g7 25 #[S0,S0] :: box g_0 117 #[v0_0,I x37.2] :: oF 3 RP.int (f 81) ([1001,(-1001),1000]) :: X288):=Z
 have Z:=Z.get 4 rfl
 obtain ⟨H303b,l304,s305,z306,k307⟩:=Z.lend [_]
 have hb308 : (rS 3 RP.int).rel H303b [(f 81)] ([1001,(-1001),1000]):=fz_own 4 z306 rfl
 refine L_call rfl Tryz.call64 (ops2 (hP288 2 80 rfl rfl) rfl) (s_l17Rd_num_c (r_:=({ b:=r_.b,p:=x37.2 } : Rd)) (list:=[1001,(-1001),1000]) s305 (RP.mono _ h0_0 (Le.trans hE288 l304)) hb308 hx282) ?_
 rintro _ w309 ⟨rfl,Z⟩
 have Z:=k307 Z (cb c0)
 have Z:=Z.gets [5,5,5,5,5] rfl
 exact L_nil ⟨rfl,_,_,rfl,Le.refl _,fun _ _=>rfl,Z⟩
 exact opsS_nil
 have Z : Star H288 w_ ([box g29 25 #[r26_0,r26_1],oF 3 RP.int r26_0 x14.sizes,oS 49 (oRule 3 22) r26_1 x14.rules,box g7 25 #[S0,S0],oF 3 RP.int (f 81) ([1001,(-1001),1000]),box g_0 117 #[v0_0,I x282.2]]):=Z
 obtain ⟨g310,cap_g310,hv311,_,_⟩:=Star.row 2 Z rfl hx284
 refine L_ixO (R:=(oRule 3 22)) (tb:=0) 0 rfl Tryz.underlying23 Tryz.sizeOf49 (hT288 1 79 rfl rfl) hv311 (by first | rfl | simp) rfl hx284 (fA (Int.toNat 0 * 5 + 3) fa_49_3 rfl rfl ?_)
 have Z:=Z.get 2 rfl
 refine L_stF (j:=3) (u:=I x282.1) (z:={ x284 with bound:=x282.1 }) rfl Tryz.sizeOf3 rfl rfl (hT288 4 82 rfl rfl) rfl hv311 Z hx284 fld_oRule_3 (fun w312 Z=>nn ?_)
 obtain ⟨rfl,rfl⟩:=so2 hA271
 have Z:=Z.gets [3,2,2,3,5] rfl
 exact rj hR271 ⟨H288,hE288,((hS288 4 rfl).trans rfl),((hS288 5 rfl).trans rfl),(Star.keepN 5 Z)⟩
 have hA271:=(ite_f hc272).symm.trans hA271
 refine W_skip ?_
 obtain ⟨rfl,rfl⟩:=so2 hA271
 have Z:=Z.gets [4,2,4,4,4] rfl
 exact rj hR271 ⟨H,(Le.refl _),rfl,rfl,(Star.keepN 5 Z)⟩
 intro f w_ hR
 obtain ⟨H269,l270,sf4,sf5,Z⟩:=rk hR271 hR
 obtain rfl:=so hA265
 exact rj hR265 ⟨g_0_1_267,g29_1_268,H269,rfl,l270,sf4,sf5,Z⟩
 have hA265:=(ite_f hc266).symm.trans hA265
 refine sq (L_eql rfl rfl rfl (aB rfl (nn (W_cond (b:=(x37.1 == 5)) rfl (fun hc313=>?_) (fun hc313=>?_)))))
 have hA265:=(ite_t hc313).symm.trans hA265
 refine sq (L_bld rfl (parts0 ) (bld_25_  ) (L_staB (vs:=#[S0,S0]) (cs2:=#[S0,S0]) 4 rfl Tryz.sizeOf25 rfl rfl rfl (ones_cons rfl (ones_cons rfl ones_nil)) Z rfl (by show 0 + 2≤2; decide) rfl (fun w315 Z=>nn (W_ret (retG1 (v1:=.agg #[S0,S0]) Tryz.results85 (resV_agg Tryz.isAgg25 Tryz.sizeOf25 rfl (Star.blkAt 0 Z rfl) rfl) ?_)))))
 obtain rfl:=so hA265
 obtain rfl:=so hA183
 obtain rfl:=so hA131
 obtain rfl:=so hA105
 obtain rfl:=so hA51
 obtain rfl:=so hF
 have Z:=Star.addNil (R:=(OR.frz RP.int)) (e:=3) Z
 have Z:=Star.addNil (R:=(oRule 3 22)) (e:=49) Z
 have Z:=Z.gets [3,1,2] rfl
 exact ⟨S0,S0,rfl,(Star.keepN 3 Z)⟩
 have hA265:=(ite_f hc313).symm.trans hA265
 refine W_skip ?_
 obtain rfl:=so hA265
 have Z:=Z.gets [4,2,4,4,4] rfl
 exact rj hR265 ⟨x37.2,x14.rules,H,rfl,(Le.refl _),rfl,rfl,(Star.keepN 5 Z)⟩
 intro f w_ hR
 obtain ⟨g_0_1_261,g29_1_262,H263,rfl,l264,sf4,sf5,Z⟩:=rk hR265 hR
 obtain rfl:=so hA183
 exact rj hR183 ⟨g_0_1_261,g29_1_262,H263,rfl,l264,sf4,sf5,Z⟩
 intro f w_ hR
 obtain ⟨g_0_1_179,g29_1_180,H181,rfl,l182,sf4,sf5,Z⟩:=rk hR183 hR
 obtain rfl:=so hA131
 exact rj hR131 ⟨g_0_1_179,g29_1_180,H181,rfl,l182,sf4,sf5,Z⟩
 intro f w_ hR
 obtain ⟨g_0_1_127,g29_1_128,H129,rfl,l130,sf4,sf5,Z⟩:=rk hR131 hR
 obtain rfl:=so hA105
 exact rj hR105 ⟨g_0_1_127,x14.sizes,g29_1_128,H129,r26_0,rfl,l130,sf4,sf5,Z⟩
 intro f w_ hR
 obtain ⟨g_0_1_99,g29_0_100,g29_1_102,H103,v100_g29_0,rfl,l104,sf4,sf5,Z⟩:=rk hR105 hR
 obtain rfl:=so hA51
 exact rj hR51 ⟨g_0_1_99,g29_0_100,g29_1_102,H103,v100_g29_0,rfl,l104,sf4,sf5,Z⟩
 intro f w_ hR
 obtain ⟨g_0_1_45,g29_0_46,g29_1_48,H49,v46_g29_0,rfl,l50,sf4,sf5,Z⟩:=rk hR51 hR
 refine sq (L_lda (cs:=[v46_g29_0,r26_1]) rfl Tryz.isAgg25 Tryz.sizeOf25 sf5 (At.sub0 (Blk.at (Star.blkAt 3 Z rfl)) 0 2) rfl (L_staB (vs:=#[v46_g29_0,r26_1]) (cs2:=#[v46_g29_0,r26_1]) 4 rfl Tryz.sizeOf25 sf4 rfl rfl (ones_cons (one_len (Star.len 1 Z rfl)) (ones_cons (one_len (Star.len 2 Z rfl)) ones_nil)) Z rfl (by show 0 + 2≤2; decide) rfl (fun w319 Z=>nn (W_ret (retG1 (v1:=.agg #[v46_g29_0,r26_1]) Tryz.results85 (resV_agg Tryz.isAgg25 Tryz.sizeOf25 sf4 (Star.blkAt 0 Z rfl) rfl) ?_)))))
 obtain rfl:=so hF
 have Z:=Z.gets [1,3,3] rfl
 exact ⟨v46_g29_0,r26_1,rfl,(Star.down (Star.keepN 3 Z) l50 (co closed_int (co closed_oRule (cb c0))))⟩
theorem s_DrawModelValid_c {fu : Nat} {code : List UInt8} {v0 : Value} {H : FH} {w : World} (Z : Star H w []) (h0 : (rS 5 RP.u8).rel H [v0] code) {r : Model} (hF : s_DrawModelValid fu code = some r) :
 C Tryz.prog 43 #[v0] w fun v w'=>∃ (u1 : Value) (u2 : Value),v = .agg #[u1,u2]∧Star H w' [oF 3 RP.int u1 r.sizes,oS 49 (oRule 3 22) u2 r.rules]:=by
 unfold s_DrawModelValid at hF
 refine C_enter Tryz.func43 rfl Tryz.ntmps43 rfl (sq (L_al (cs:=#[S0,S0]) rfl Tryz.zeroValue25 rfl Z (fun g3 w4 Z=>nq ?_)))
 obtain ⟨x5,hx5,hF⟩:=bind_some hF
 refine W_region (mV v0 rfl (L_call rfl Tryz.call54 (ops1 rfl) (s_l17Open_c (code:=code) Z h0 hx5) ?_))
 rintro _ w7 ⟨H7,l7,r7_0,r7_1,rfl,hr7_1,Z⟩
 refine aV (Pt r7_0) rfl (nq ?_)
 obtain ⟨x8,hx8,hF⟩:=bind_some hF
 obtain ⟨x17,hx17,hF⟩:=bind_some hF
 refine W_region (mV (Pt r7_0) rfl (mV (Pt r7_0) rfl (L_call rfl Tryz.call56 (ops1 rfl) (s_l6Model_c (r_:=x5) Z hr7_1 hx8) ?_)))
 rintro _ w22 ⟨H22,l22,r22_0,r22_1,rfl,hr22_0,Z⟩
 have Z:=Z.get 1 rfl
 obtain ⟨H24b,l25,s26,z27,k28⟩:=Z.lend [_]
 have hb29 : (rS 49 (rRule 3 22)).rel H24b [r22_1] x8.1.rules:=fz_own 0 z27 rfl
 refine L_call rfl Tryz.call85 (ops2 rfl rfl) (s_l6Mutate_c (r_:=({ b:=x5.b,p:=x8.2 } : Rd)) (m:=x8.1) s26 (RP.mono _ hr7_1 (Le.trans l22 l25)) (RP.mono _ hr22_0 l25) hb29 hx17) ?_
 rintro _ w30 ⟨r30_0,r30_1,rfl,Z⟩
 have Z:=k28 Z (co closed_int (co closed_oRule (cb c0)))
 refine L_staB (vs:=#[r30_0,r30_1]) (cs2:=#[r30_0,r30_1]) 4 rfl Tryz.sizeOf25 rfl rfl rfl (ones_cons (one_len (Star.len 0 Z rfl)) (ones_cons (one_len (Star.len 1 Z rfl)) ones_nil)) Z rfl (by show 0 + 2≤2; decide) rfl (fun w33 Z=>nn (W_ret (retG1 (v1:=.agg #[r30_0,r30_1]) Tryz.results43 (resV_agg Tryz.isAgg25 Tryz.sizeOf25 rfl (Star.blkAt 0 Z rfl) rfl) ?_)))
 obtain rfl:=so hF
 have Z:=Z.gets [2,2] rfl
 exact ⟨r30_0,r30_1,rfl,(Star.down (Star.keepN 2 Z) (Le.trans l7 l22) (co closed_int (co closed_oRule c0)))⟩
theorem s_DrawFormatModel_c {fu : Nat} {code : List UInt8} {v0 : Value} {H : FH} {w : World} (Z : Star H w []) (h0 : (rS 5 RP.u8).rel H [v0] code) {r : Model} (hF : s_DrawFormatModel fu code = some r) :
 C Tryz.prog 12 #[v0] w fun v w'=>∃ (u1 : Value) (u2 : Value),v = .agg #[u1,u2]∧Star H w' [oF 3 RP.int u1 r.sizes,oS 49 (oRule 3 22) u2 r.rules]:=by
 unfold s_DrawFormatModel at hF
 refine C_enter Tryz.func12 rfl Tryz.ntmps12 rfl (sq (L_al (cs:=#[S0,S0]) rfl Tryz.zeroValue25 rfl Z (fun g3 w4 Z=>nq ?_)))
 obtain ⟨x10,hx10,hF⟩:=bind_some hF
 refine W_region (mV v0 rfl ?_)
 obtain ⟨H15b,l16,s17,z18,k19⟩:=Z.borrow
 refine L_call rfl Tryz.call43 (ops1 rfl) (s_DrawModelValid_c (code:=code) s17 (RP.mono _ h0 l16) hx10) ?_
 rintro _ w20 ⟨r20_0,r20_1,rfl,Z⟩
 have Z:=k19 Z (co closed_int (co closed_oRule c0))
 refine L_staB (vs:=#[r20_0,r20_1]) (cs2:=#[r20_0,r20_1]) 2 rfl Tryz.sizeOf25 rfl rfl rfl (ones_cons (one_len (Star.len 0 Z rfl)) (ones_cons (one_len (Star.len 1 Z rfl)) ones_nil)) Z rfl (by show 0 + 2≤2; decide) rfl (fun w23 Z=>nn (W_ret (retG1 (v1:=.agg #[r20_0,r20_1]) Tryz.results12 (resV_agg Tryz.isAgg25 Tryz.sizeOf25 rfl (Star.blkAt 0 Z rfl) rfl) ?_)))
 obtain rfl:=so hF
 have Z:=Z.gets [2,2] rfl
 exact ⟨r20_0,r20_1,rfl,(Star.keepN 2 Z)⟩
theorem i_FormatModel_c {m : Model} {v0_0 : Value} {v0_1 : Value} {H : FH} {w : World} (Z : Star H w []) (h0_0 : (rS 3 RP.int).rel H [v0_0] m.sizes) (h0_1 : (rS 49 (rRule 3 22)).rel H [v0_1] m.rules) {r : ByteArray} (hF : i_FormatModel m = some r) :
 C Tryz.prog 13 #[.agg #[v0_0,v0_1]] w fun v w'=>v = .string r∧Star H w' []:=by
 unfold i_FormatModel at hF
 refine C_enter Tryz.func13 rfl Tryz.ntmps13 rfl (sq (L_box (v:=.agg #[v0_0,v0_1]) (cs:=#[v0_0,v0_1]) rfl rfl rfl Z (fun g3 w4 Z=>aV (.string (⟨#[]⟩ : ByteArray)) rfl (nq (W_seq ?_)))))
 obtain ⟨x10,hx10,hF⟩:=bind_some hF
 refine W_region (L_lda (cs:=[v0_0,v0_1]) rfl Tryz.isAgg25 Tryz.sizeOf25 rfl (At.sub0 (Blk.at (Star.blkAt 0 Z rfl)) 0 2) rfl ?_)
 obtain ⟨H12b,l13,s14,z15,k16⟩:=Z.borrow
 refine L_call rfl Tryz.call15 (ops1 rfl) (i_ModelValid_c (m:=m) s14 (RP.mono _ h0_0 l13) (RP.mono _ h0_1 l13) hx10) ?_
 rintro _ w17 ⟨rfl,Z⟩
 have Z:=k16 Z c0
 refine L_not_ rfl rfl (nn (W_cond (b:=(!x10)) rfl (fun hc18=>?_) (fun hc18=>?_)))
 have hF:=(ite_t hc18).symm.trans hF
 refine sq (aV (.string (⟨#[]⟩ : ByteArray)) rfl (nn (W_ret (retG1 (v1:=.string (⟨#[]⟩ : ByteArray)) Tryz.results13 rfl ?_))))
 obtain rfl:=so hF
 exact ⟨rfl,(Star.keepN 0 Z)⟩
 have hF:=(ite_f hc18).symm.trans hF
 refine W_skip (W_seq ?_)
 obtain ⟨x24,hx24,hF⟩:=bind_some hF
 refine W_region (L_lda (cs:=[v0_0,v0_1]) rfl Tryz.isAgg25 Tryz.sizeOf25 rfl (At.sub0 (Blk.at (Star.blkAt 0 Z rfl)) 0 2) rfl ?_)
 obtain ⟨H26b,l27,s28,z29,k30⟩:=Z.borrow
 refine L_call rfl Tryz.call36 (ops1 rfl) (i_formatModel_c (m:=m) s28 (RP.mono _ h0_0 l27) (RP.mono _ h0_1 l27) hx24) ?_
 rintro _ w31 ⟨rfl,Z⟩
 have Z:=k30 Z c0
 refine aV (.string x24) rfl (nn (W_ret (retG1 (v1:=.string x24) Tryz.results13 rfl ?_)))
 obtain rfl:=so hF
 exact ⟨rfl,(Star.keepN 0 Z)⟩
theorem slices_Equal_int_c {s1 : List Int} {s2 : List Int} {v0 : Value} {v1 : Value} {H : FH} {w : World} (Z : Star H w []) (h0 : (rS 3 RP.int).rel H [v0] s1) (h1 : (rS 3 RP.int).rel H [v1] s2) {r : Bool} (hF : slices_Equal_int s1 s2 = some r) :
 C Tryz.prog 51 #[v0,v1] w fun v w'=>v = Bo r∧Star H w' []:=by
 unfold slices_Equal_int at hF
 refine C_enter Tryz.func51 rfl Tryz.ntmps51 rfl (sq (aB rfl (nq (sq (mV v0 rfl (L_len rfl Tryz.underlying22 rfl (slice_len h0) (mV v1 rfl (L_len rfl Tryz.underlying22 rfl (slice_len h1) (L_neq rfl rfl rfl (nn (W_cond (b:=((s1.length : Int) != (s2.length : Int))) rfl (fun hc1=>?_) (fun hc1=>?_))))))))))))
 have hF:=(ite_t hc1).symm.trans hF
 refine sq (aB rfl (nn (W_ret (retG1 (v1:=Bo false) Tryz.results51 rfl ?_))))
 obtain rfl:=so hF
 exact ⟨rfl,Z⟩
 have hF:=(ite_f hc1).symm.trans hF
 refine W_skip (W_seq (sq (mV v0 rfl (L_len rfl Tryz.underlying22 rfl (slice_len h0) (mI rfl (nn ?_))))))
 have hlen5 : List.length s1≤9223372036854775807:=len_le (slice_len h0)
 obtain ⟨j5,hL5,hF⟩:=bind_some hF
 obtain ⟨R5,hR5⟩:=exR fun f w_=>∃ H3 : FH,j5 = .nx ()∧Le H H3∧Star H3 w_ ([])
 refine W_join R5 ?_ ?_
 refine W_block ?_
 obtain ⟨I5,hI5⟩:=exI fun n f w_=>∃ i_2 : Nat,∃ suf5 : List Int,∃ H3 : FH,n = suf5.length∧List.drop i_2 s1 = suf5∧i_2 + suf5.length = s1.length∧rangeL (slices_Equal_int_b1 s2) suf5 i_2 () = some j5∧Le H H3∧f 0 = v0∧f 1 = v1∧f 12 = I (s1.length : Int)∧f 13 = I i_2∧Star H3 w_ ([])
 refine W_loop I5 (n:=s1.length) ?_ ?_
 exact ij hI5 ⟨0,s1,H,rfl,rfl,Nat.zero_add _,hL5,(Le.refl _),rfl,rfl,rfl,rfl,Z⟩
 intro n5 f w_ hI
 obtain ⟨i_2,suf5,H3,rfl,hd5,hl5,hL5,l4,sf0,sf1,sf12,sf13,Z⟩:=ik hI5 hI
 refine sq (L_lss rfl sf13 sf12 (nq (W_cond (b:=decide ((i_2 : Int) < (s1.length : Int))) rfl (fun hc6=>?_) (fun hc6=>?_))))
 have hlt5:=of_decide_eq_true hc6
 rcases suf5 with _ | ⟨x_5,rest5⟩
 exact absurd hlt5 (by simp at hl5; omega)
 obtain ⟨o5,hB5,hL5⟩:=range_cons hL5
 rw [slices_Equal_int_b1] at hB5
 have hix5:=drop_idx hd5
 refine W_skip (W_seq (W_block (sq (mF sf13 rfl (aI rfl (nq ?_))))))
 obtain ⟨x11,hx11,hB5⟩:=bind_some hB5
 refine W_drawS 8 [isV (v0),isV (I i_2),isEl RP.int x_5 0,isV (I x_5),isV (v1),isV (I i_2),isEl RP.int x11 0,isV (I x11)] [] [] ([]) [([],[]),([],[]),([],[]),([],[]),([],[]),([],[]),([],[]),([],[])] (S:=[]) Tryz_mix (by kernel_rfl) rfl (by kernel_rfl) (amF_cons (mono_V _) (amF_cons (mono_V _) (amF_cons (mono_el _ _ _) (amF_cons (mono_V _) (amF_cons (mono_V _) (amF_cons (mono_V _) (amF_cons (mono_el _ _ _) (amF_cons (mono_V _) amF_nil)))))))) Z ?_ (fun f w_ H16 hS16 hE16 hT16 Z=>?_)
 refine opsS_cons (fun f w_ _ _ s _ _ Z=>mF ((s 0 rfl).trans sf0) rfl (nO rfl rfl Z)) (opsS_cons (fun f w_ _ _ s _ _ Z=>mF ((s 5 rfl).trans rfl) rfl (nO rfl rfl Z)) (opsS_cons ?_ ?_))
 intro f w_ H16 X16 hS16 hE16 hP16 Z
 refine L_ix (r:=RP.int) rfl Tryz.underlying22 Tryz.sizeOf3 (hP16 0 16 rfl rfl) (RP.mono _ h0 (Le.trans l4 hE16)) (hP16 1 17 rfl rfl) hix5 (fun g25 o26 cs_g25 hrk_hat27 hat27=>?_)
 obtain rfl : _ = [_]:=hrk_hat27
 exact L_nil ⟨rfl,_,_,rfl,Le.refl _,fun _ _=>⟨_,_,_,rfl,rfl,hat27⟩,Z⟩
 refine opsS_cons ?_ ?_
 intro f w_ H16 X16 hS16 hE16 hP16 Z
 obtain ⟨g29,o29,cs29,hv29,hrk_hat29,hat29⟩:=(hP16 2 18 rfl rfl)
 obtain rfl : _ = [_]:=hrk_hat29
 refine L_ld rfl Tryz.isAgg3 hv29 (At.cell (AtH.at hat29 Z.sub) (j:=0) rfl) (L_nil ⟨rfl,_,_,rfl,Le.refl _,fun _ _=>rfl,Z⟩)
 refine opsS_cons (fun f w_ _ _ s _ _ Z=>mF ((s 1 rfl).trans sf1) rfl (nO rfl rfl Z)) (opsS_cons (fun f w_ _ _ s _ _ Z=>mF ((s 5 rfl).trans rfl) rfl (nO rfl rfl Z)) (opsS_cons ?_ ?_))
 intro f w_ H16 X16 hS16 hE16 hP16 Z
 refine L_ix (r:=RP.int) rfl Tryz.underlying22 Tryz.sizeOf3 (hP16 4 20 rfl rfl) (RP.mono _ h1 (Le.trans l4 hE16)) (hP16 5 21 rfl rfl) hx11 (fun g31 o32 cs_g31 hrk_hat33 hat33=>?_)
 obtain rfl : _ = [_]:=hrk_hat33
 exact L_nil ⟨rfl,_,_,rfl,Le.refl _,fun _ _=>⟨_,_,_,rfl,rfl,hat33⟩,Z⟩
 refine opsS_cons ?_ ?_
 intro f w_ H16 X16 hS16 hE16 hP16 Z
 obtain ⟨g35,o35,cs35,hv35,hrk_hat35,hat35⟩:=(hP16 6 22 rfl rfl)
 obtain rfl : _ = [_]:=hrk_hat35
 refine L_ld rfl Tryz.isAgg3 hv35 (At.cell (AtH.at hat35 Z.sub) (j:=0) rfl) (L_nil ⟨rfl,_,_,rfl,Le.refl _,fun _ _=>rfl,Z⟩)
 exact opsS_nil
 refine L_neq rfl (hT16 3 19 rfl rfl) (hT16 7 23 rfl rfl) (nn (W_cond (b:=(x_5 != x11)) rfl (fun hc37=>?_) (fun hc37=>?_)))
 have hB5:=(ite_t hc37).symm.trans hB5
 refine sq (aB rfl (nn (W_ret (retG1 (v1:=Bo false) Tryz.results51 rfl ?_))))
 obtain rfl:=so hB5
 obtain rfl:=so hL5
 obtain rfl:=so hF
 exact ⟨rfl,(Star.down Z (Le.trans l4 hE16) c0)⟩
 have hB5:=(ite_f hc37).symm.trans hB5
 refine W_skip (W_region (L_add rfl ((hS16 13 rfl).trans sf13) rfl (mI rfl (nn ?_))))
 obtain rfl:=so hB5
 show ∃ m,m < _∧I5 m _ _
 refine ⟨rest5.length,by simp,?_⟩
 exact ij hI5 ⟨i_2 + 1,rest5,H16,rfl,drop_next hd5,by simp at hl5; omega,hL5,(Le.trans l4 hE16),((hS16 0 rfl).trans sf0),((hS16 1 rfl).trans sf1),((hS16 12 rfl).trans sf12),(Eq.trans rfl (congrArg (Value.int .i64) (i64_succ (n:=s1.length) (by simp at hl5; omega) hlen5))),Z⟩
 rcases suf5 with _ | ⟨_,_⟩
 obtain rfl:=range_nil hL5
 refine W_exit (rj hR5 ⟨H3,rfl,l4,Z⟩)
 exact absurd (of_decide_eq_false hc6) (by simp at hl5; omega)
 intro f w_ hR
 obtain ⟨H3,rfl,l4,Z⟩:=rk hR5 hR
 refine sq (aB rfl (nn (W_ret (retG1 (v1:=Bo true) Tryz.results51 rfl ?_))))
 obtain rfl:=so hF
 exact ⟨rfl,(Star.down Z l4 c0)⟩
theorem slices_EqualFunc_implRule_c {s1 : List Rule} {s2 : List Rule} {eq : (Rule→Rule→Option Bool)} {v0 : Value} {v1 : Value} {v2 : Value} {H : FH} {w : World} (Z : Star H w []) (h0 : (rS 49 (rRule 3 22)).rel H [v0] s1) (h1 : (rS 49 (rRule 3 22)).rel H [v1] s2) (h2 : Fun2 Tryz.prog (rRule 3 22) (rRule 3 22) true Value.bool eq v2 H) {r : Bool} (hF : slices_EqualFunc_implRule s1 s2 eq = some r) :
 C Tryz.prog 52 #[v0,v1,v2] w fun v w'=>v = Bo r∧Star H w' []:=by
 unfold slices_EqualFunc_implRule at hF
 obtain ⟨fid_2,caps_2,rfl,hcall_2,hc_2⟩:=h2
 refine C_enter Tryz.func52 rfl Tryz.ntmps52 rfl (sq (aB rfl (nq (sq (mV v0 rfl (L_len rfl Tryz.underlying23 rfl (slice_len h0) (mV v1 rfl (L_len rfl Tryz.underlying23 rfl (slice_len h1) (L_neq rfl rfl rfl (nn (W_cond (b:=((s1.length : Int) != (s2.length : Int))) rfl (fun hc1=>?_) (fun hc1=>?_))))))))))))
 have hF:=(ite_t hc1).symm.trans hF
 refine sq (aB rfl (nn (W_ret (retG1 (v1:=Bo false) Tryz.results52 rfl ?_))))
 obtain rfl:=so hF
 exact ⟨rfl,Z⟩
 have hF:=(ite_f hc1).symm.trans hF
 refine W_skip (W_seq (sq (mV v0 rfl (L_len rfl Tryz.underlying23 rfl (slice_len h0) (mI rfl (nn ?_))))))
 have hlen3 : List.length s1≤9223372036854775807:=len_le (slice_len h0)
 obtain ⟨j3,hL3,hF⟩:=bind_some hF
 obtain ⟨R3,hR3⟩:=exR fun f w_=>j3 = .nx ()∧Star H w_ ([])
 refine W_join R3 ?_ ?_
 refine W_block ?_
 obtain ⟨I3,hI3⟩:=exI fun n f w_=>∃ i_2 : Nat,∃ suf3 : List Rule,n = suf3.length∧List.drop i_2 s1 = suf3∧i_2 + suf3.length = s1.length∧rangeL (slices_EqualFunc_implRule_b1 s2 eq) suf3 i_2 () = some j3∧f 1 = v1∧f 2 = .func (.func fid_2) #[] caps_2∧f 15 = v0∧f 16 = I (s1.length : Int)∧f 17 = I i_2∧Star H w_ ([])
 refine W_loop I3 (n:=s1.length) ?_ ?_
 exact ij hI3 ⟨0,s1,rfl,rfl,Nat.zero_add _,hL3,rfl,rfl,rfl,rfl,rfl,Z⟩
 intro n3 f w_ hI
 obtain ⟨i_2,suf3,rfl,hd3,hl3,hL3,sf1,sf2,sf15,sf16,sf17,Z⟩:=ik hI3 hI
 refine sq (L_lss rfl sf17 sf16 (nq (W_cond (b:=decide ((i_2 : Int) < (s1.length : Int))) rfl (fun hc4=>?_) (fun hc4=>?_))))
 have hlt3:=of_decide_eq_true hc4
 rcases suf3 with _ | ⟨x_3,rest3⟩
 exact absurd hlt3 (by simp at hl3; omega)
 obtain ⟨o3,hB3,hL3⟩:=range_cons hL3
 rw [slices_EqualFunc_implRule_b1] at hB3
 have hix3:=drop_idx hd3
 refine W_skip (W_seq (W_block (sq (mF sf17 rfl (L_ix (r:=(rRule 3 22)) rfl Tryz.underlying23 Tryz.sizeOf49 sf15 h0 sf17 hix3 (fun g12 o13 cs_g12 hrk_hat14 hat14=>?_))))))
 obtain ⟨u15_0,u15_1,u15_2,rfl,hu15_0,hu15_1,hu15_2⟩:=rRule_iff.1 hrk_hat14
 refine L_lda (cs:=[I x_3.kind,u15_0,u15_1,I x_3.bound,u15_2]) rfl Tryz.isAgg49 Tryz.sizeOf49 rfl (At.sub (AtH.at hat14 Z.sub) 0 5) rfl (L_al (cs:=#[I 0,S0,S0,I 0,S0]) rfl Tryz.zeroValue49 rfl Z (fun g16 w17 Z=>aI rfl (L_staB (vs:=#[I x_3.kind,u15_0,u15_1,I x_3.bound,u15_2]) (cs2:=#[I x_3.kind,u15_0,u15_1,I x_3.bound,u15_2]) 0 rfl Tryz.sizeOf49 rfl rfl rfl (ones_cons rfl (ones_cons (one_len (slice_len hu15_0)) (ones_cons (one_len (slice_len hu15_1)) (ones_cons rfl (ones_cons (one_len (slice_len hu15_2)) ones_nil))))) Z rfl (by show 0 + 5≤5; decide) rfl (fun w18 Z=>nq ?_))))
 obtain ⟨x19,hx19,hB3⟩:=bind_some hB3
 refine W_region (mF sf1 rfl (mI rfl (L_ix (r:=(rRule 3 22)) rfl Tryz.underlying23 Tryz.sizeOf49 rfl h1 rfl hx19 (fun g27 o28 cs_g27 hrk_hat29 hat29=>?_))))
 obtain ⟨u30_0,u30_1,u30_2,rfl,hu30_0,hu30_1,hu30_2⟩:=rRule_iff.1 hrk_hat29
 refine L_lda (cs:=[I x19.kind,u30_0,u30_1,I x19.bound,u30_2]) rfl Tryz.isAgg49 Tryz.sizeOf49 rfl (At.sub (AtH.at hat29 Z.sub) 0 5) rfl (L_al (cs:=#[I 0,S0,S0,I 0,S0]) rfl Tryz.zeroValue49 rfl Z (fun g31 w32 Z=>L_staB (vs:=#[I x19.kind,u30_0,u30_1,I x19.bound,u30_2]) (cs2:=#[I x19.kind,u30_0,u30_1,I x19.bound,u30_2]) 0 rfl Tryz.sizeOf49 rfl rfl rfl (ones_cons rfl (ones_cons (one_len (slice_len hu30_0)) (ones_cons (one_len (slice_len hu30_1)) (ones_cons rfl (ones_cons (one_len (slice_len hu30_2)) ones_nil))))) Z rfl (by show 0 + 5≤5; decide) rfl (fun w33 Z=>nq ?_)))
 obtain ⟨x34,hx34,hB3⟩:=bind_some hB3
 refine W_region (mF sf2 rfl (L_lda (cs:=[I x_3.kind,u15_0,u15_1,I x_3.bound,u15_2]) rfl Tryz.isAgg49 Tryz.sizeOf49 rfl (At.sub0 (Blk.at (Star.blkAt 1 Z rfl)) 0 5) rfl (L_lda (cs:=[I x19.kind,u30_0,u30_1,I x19.bound,u30_2]) rfl Tryz.isAgg49 Tryz.sizeOf49 rfl (At.sub0 (Blk.at (Star.blkAt 0 Z rfl)) 0 5) rfl ?_)))
 obtain ⟨H41b,l42,s43,z44,k45⟩:=Z.borrow
 refine L_callv (args:=#[.agg #[I x_3.kind,u15_0,u15_1,I x_3.bound,u15_2],.agg #[I x19.kind,u30_0,u30_1,I x19.bound,u30_2]]) rfl hcall_2 rfl (ops2 rfl rfl) (hc_2 _ _ l42 s43 [I x_3.kind,u15_0,u15_1,I x_3.bound,u15_2] [I x19.kind,u30_0,u30_1,I x19.bound,u30_2] _ _ _ _ (rRule_iff.2 ⟨_,_,_,rfl,(RP.mono _ hu15_0 l42),(RP.mono _ hu15_1 l42),(RP.mono _ hu15_2 l42)⟩) (rRule_iff.2 ⟨_,_,_,rfl,(RP.mono _ hu30_0 l42),(RP.mono _ hu30_1 l42),(RP.mono _ hu30_2 l42)⟩) hx34 (args_app rfl)) ?_
 rintro _ w46 ⟨rfl,Z⟩
 have Z:=k45 Z c0
 refine L_not_ rfl rfl (nn (W_cond (b:=(!x34)) rfl (fun hc47=>?_) (fun hc47=>?_)))
 have hB3:=(ite_t hc47).symm.trans hB3
 refine sq (aB rfl (nn (W_ret (retG1 (v1:=Bo false) Tryz.results52 rfl ?_))))
 obtain rfl:=so hB3
 obtain rfl:=so hL3
 obtain rfl:=so hF
 exact ⟨rfl,(Star.keepN 0 Z)⟩
 have hB3:=(ite_f hc47).symm.trans hB3
 refine W_skip (W_region (L_add rfl sf17 rfl (mI rfl (nn ?_))))
 obtain rfl:=so hB3
 show ∃ m,m < _∧I3 m _ _
 refine ⟨rest3.length,by simp,?_⟩
 exact ij hI3 ⟨i_2 + 1,rest3,rfl,drop_next hd3,by simp at hl3; omega,hL3,sf1,sf2,sf15,sf16,(Eq.trans rfl (congrArg (Value.int .i64) (i64_succ (n:=s1.length) (by simp at hl3; omega) hlen3))),(Star.keepN 0 Z)⟩
 rcases suf3 with _ | ⟨_,_⟩
 obtain rfl:=range_nil hL3
 refine W_exit (rj hR3 ⟨rfl,Z⟩)
 exact absurd (of_decide_eq_false hc4) (by simp at hl3; omega)
 intro f w_ hR
 obtain ⟨rfl,Z⟩:=rk hR3 hR
 refine sq (aB rfl (nn (W_ret (retG1 (v1:=Bo true) Tryz.results52 rfl ?_))))
 obtain rfl:=so hF
 exact ⟨rfl,Z⟩
theorem slices_EqualFunc_Sint_c {s1 : List (List Int)} {s2 : List (List Int)} {eq : ((List Int)→(List Int)→Option Bool)} {v0 : Value} {v1 : Value} {v2 : Value} {H : FH} {w : World} (Z : Star H w []) (h0 : (rS 22 (rS 3 RP.int)).rel H [v0] s1) (h1 : (rS 22 (rS 3 RP.int)).rel H [v1] s2) (h2 : Fun2 Tryz.prog (rS 3 RP.int) (rS 3 RP.int) false Value.bool eq v2 H) {r : Bool} (hF : slices_EqualFunc_Sint s1 s2 eq = some r) :
 C Tryz.prog 98 #[v0,v1,v2] w fun v w'=>v = Bo r∧Star H w' []:=by
 unfold slices_EqualFunc_Sint at hF
 obtain ⟨fid_2,caps_2,rfl,hcall_2,hc_2⟩:=h2
 refine C_enter Tryz.func98 rfl Tryz.ntmps98 rfl (sq (aB rfl (nq (sq (mV v0 rfl (L_len rfl Tryz.underlying47 rfl (slice_len h0) (mV v1 rfl (L_len rfl Tryz.underlying47 rfl (slice_len h1) (L_neq rfl rfl rfl (nn (W_cond (b:=((s1.length : Int) != (s2.length : Int))) rfl (fun hc1=>?_) (fun hc1=>?_))))))))))))
 have hF:=(ite_t hc1).symm.trans hF
 refine sq (aB rfl (nn (W_ret (retG1 (v1:=Bo false) Tryz.results98 rfl ?_))))
 obtain rfl:=so hF
 exact ⟨rfl,Z⟩
 have hF:=(ite_f hc1).symm.trans hF
 refine W_skip (W_seq (sq (mV v0 rfl (L_len rfl Tryz.underlying47 rfl (slice_len h0) (mI rfl (nn ?_))))))
 have hlen3 : List.length s1≤9223372036854775807:=len_le (slice_len h0)
 obtain ⟨j3,hL3,hF⟩:=bind_some hF
 obtain ⟨R3,hR3⟩:=exR fun f w_=>j3 = .nx ()∧Star H w_ ([])
 refine W_join R3 ?_ ?_
 refine W_block ?_
 obtain ⟨I3,hI3⟩:=exI fun n f w_=>∃ i_2 : Nat,∃ suf3 : List (List Int),n = suf3.length∧List.drop i_2 s1 = suf3∧i_2 + suf3.length = s1.length∧rangeL (slices_EqualFunc_Sint_b1 s2 eq) suf3 i_2 () = some j3∧f 1 = v1∧f 2 = .func (.func fid_2) #[] caps_2∧f 15 = v0∧f 16 = I (s1.length : Int)∧f 17 = I i_2∧Star H w_ ([])
 refine W_loop I3 (n:=s1.length) ?_ ?_
 exact ij hI3 ⟨0,s1,rfl,rfl,Nat.zero_add _,hL3,rfl,rfl,rfl,rfl,rfl,Z⟩
 intro n3 f w_ hI
 obtain ⟨i_2,suf3,rfl,hd3,hl3,hL3,sf1,sf2,sf15,sf16,sf17,Z⟩:=ik hI3 hI
 refine sq (L_lss rfl sf17 sf16 (nq (W_cond (b:=decide ((i_2 : Int) < (s1.length : Int))) rfl (fun hc4=>?_) (fun hc4=>?_))))
 have hlt3:=of_decide_eq_true hc4
 rcases suf3 with _ | ⟨x_3,rest3⟩
 exact absurd hlt3 (by simp at hl3; omega)
 obtain ⟨o3,hB3,hL3⟩:=range_cons hL3
 rw [slices_EqualFunc_Sint_b1] at hB3
 have hix3:=drop_idx hd3
 refine W_skip (W_seq (W_block (sq (mF sf17 rfl (L_ix (r:=(rS 3 RP.int)) rfl Tryz.underlying47 Tryz.sizeOf22 sf15 h0 sf17 hix3 (fun g9 o10 cs_g9 hrk_hat11 hat11=>?_))))))
 obtain ⟨u12,rfl,hu12⟩:=slice1 hrk_hat11
 refine L_ld rfl Tryz.isAgg22 rfl (At.cell (AtH.at hat11 Z.sub) (j:=0) rfl) (aI rfl (aV u12 rfl (nq ?_)))
 obtain ⟨x13,hx13,hB3⟩:=bind_some hB3
 refine W_region (mF sf1 rfl (mI rfl (L_ix (r:=(rS 3 RP.int)) rfl Tryz.underlying47 Tryz.sizeOf22 rfl h1 rfl hx13 (fun g18 o19 cs_g18 hrk_hat20 hat20=>?_))))
 obtain ⟨u21,rfl,hu21⟩:=slice1 hrk_hat20
 refine L_ld rfl Tryz.isAgg22 rfl (At.cell (AtH.at hat20 Z.sub) (j:=0) rfl) (aV u21 rfl (nq ?_))
 obtain ⟨x22,hx22,hB3⟩:=bind_some hB3
 refine W_region (mF sf2 rfl (mV u12 rfl (mV u21 rfl ?_)))
 obtain ⟨H29b,l30,s31,z32,k33⟩:=Z.borrow
 refine L_callv (args:=#[u12,u21]) rfl hcall_2 rfl (ops2 rfl rfl) (hc_2 _ _ l30 s31 [u12] [u21] _ _ _ _ (RP.mono _ hu12 l30) (RP.mono _ hu21 l30) hx22 (args_app rfl)) ?_
 rintro _ w34 ⟨rfl,Z⟩
 have Z:=k33 Z c0
 refine L_not_ rfl rfl (nn (W_cond (b:=(!x22)) rfl (fun hc35=>?_) (fun hc35=>?_)))
 have hB3:=(ite_t hc35).symm.trans hB3
 refine sq (aB rfl (nn (W_ret (retG1 (v1:=Bo false) Tryz.results98 rfl ?_))))
 obtain rfl:=so hB3
 obtain rfl:=so hL3
 obtain rfl:=so hF
 exact ⟨rfl,Z⟩
 have hB3:=(ite_f hc35).symm.trans hB3
 refine W_skip (W_region (L_add rfl sf17 rfl (mI rfl (nn ?_))))
 obtain rfl:=so hB3
 show ∃ m,m < _∧I3 m _ _
 refine ⟨rest3.length,by simp,?_⟩
 exact ij hI3 ⟨i_2 + 1,rest3,rfl,drop_next hd3,by simp at hl3; omega,hL3,sf1,sf2,sf15,sf16,(Eq.trans rfl (congrArg (Value.int .i64) (i64_succ (n:=s1.length) (by simp at hl3; omega) hlen3))),Z⟩
 rcases suf3 with _ | ⟨_,_⟩
 obtain rfl:=range_nil hL3
 refine W_exit (rj hR3 ⟨rfl,Z⟩)
 exact absurd (of_decide_eq_false hc4) (by simp at hl3; omega)
 intro f w_ hR
 obtain ⟨rfl,Z⟩:=rk hR3 hR
 refine sq (aB rfl (nn (W_ret (retG1 (v1:=Bo true) Tryz.results98 rfl ?_))))
 obtain rfl:=so hF
 exact ⟨rfl,Z⟩
theorem i_sameRule_c {a : Rule} {b : Rule} {v0_1 : Value} {v0_2 : Value} {v0_4 : Value} {v1_1 : Value} {v1_2 : Value} {v1_4 : Value} {H : FH} {w : World} (Z : Star H w []) (h0_1 : (rS 3 RP.int).rel H [v0_1] a.vars) (h0_2 : (rS 3 RP.int).rel H [v0_2] a.coefs) (h0_4 : (rS 22 (rS 3 RP.int)).rel H [v0_4] a.rows) (h1_1 : (rS 3 RP.int).rel H [v1_1] b.vars) (h1_2 : (rS 3 RP.int).rel H [v1_2] b.coefs) (h1_4 : (rS 22 (rS 3 RP.int)).rel H [v1_4] b.rows) {r : Bool} (hF : i_sameRule a b = some r) :
 C Tryz.prog 53 #[.agg #[I a.kind,v0_1,v0_2,I a.bound,v0_4],.agg #[I b.kind,v1_1,v1_2,I b.bound,v1_4]] w fun v w'=>v = Bo r∧Star H w' []:=by
 unfold i_sameRule at hF
 refine C_enter Tryz.func53 rfl Tryz.ntmps53 rfl (sq (L_box (v:=.agg #[I a.kind,v0_1,v0_2,I a.bound,v0_4]) (cs:=#[I a.kind,v0_1,v0_2,I a.bound,v0_4]) rfl rfl rfl Z (fun g5 w6 Z=>L_box (v:=.agg #[I b.kind,v1_1,v1_2,I b.bound,v1_4]) (cs:=#[I b.kind,v1_1,v1_2,I b.bound,v1_4]) rfl rfl rfl Z (fun g7 w8 Z=>aB rfl (nq ?_)))))
 obtain ⟨b16,hb16,hF⟩:=bind_some hF
 obtain ⟨b24,hb24,hF⟩:=bind_some hF
 obtain ⟨b32,hb32,hF⟩:=bind_some hF
 obtain ⟨R33,hR33⟩:=exR fun f w_=>f 4 = Bo b32∧Star H w_ ([])
 refine W_join R33 ?_ ?_
 refine W_region (fA 0 fa_49_0 rfl rfl (ldB 1 Z Tryz.isAgg3 rfl rfl rfl (fA 0 fa_49_0 rfl rfl (ldB 0 Z Tryz.isAgg3 rfl rfl rfl (L_eql rfl rfl rfl (mB rfl (L_split (d:=10) (b:=(a.kind == b.kind)) rfl (fun hc34=>?_) (fun hc34=>?_))))))))
 rw [ite_t hc34] at hb16
 obtain ⟨x14,hx14,hb16⟩:=bind_some hb16
 refine fA 1 fa_49_1 rfl rfl (ldB 1 Z Tryz.isAgg22 rfl rfl rfl (fA 1 fa_49_1 rfl rfl (ldB 0 Z Tryz.isAgg22 rfl rfl rfl ?_)))
 obtain ⟨H35b,l36,s37,z38,k39⟩:=Z.borrow
 refine L_call rfl Tryz.call51 (ops2 rfl rfl) (slices_Equal_int_c (s1:=a.vars) (s2:=b.vars) s37 (RP.mono _ h0_1 l36) (RP.mono _ h1_1 l36) hx14) ?_
 rintro _ w40 ⟨rfl,Z⟩
 have Z:=k39 Z c0
 refine L_pick (v:=Bo b16) rfl rfl (congrArg Value.bool (so hb16)) (mB rfl (L_split (d:=17) (b:=b16) rfl (fun hc41=>?_) (fun hc41=>?_)))
 rw [ite_t hc41] at hb24
 obtain ⟨x22,hx22,hb24⟩:=bind_some hb24
 refine fA 2 fa_49_2 rfl rfl (ldB 1 Z Tryz.isAgg22 rfl rfl rfl (fA 2 fa_49_2 rfl rfl (ldB 0 Z Tryz.isAgg22 rfl rfl rfl ?_)))
 obtain ⟨H42b,l43,s44,z45,k46⟩:=Z.borrow
 refine L_call rfl Tryz.call51 (ops2 rfl rfl) (slices_Equal_int_c (s1:=a.coefs) (s2:=b.coefs) s44 (RP.mono _ h0_2 l43) (RP.mono _ h1_2 l43) hx22) ?_
 rintro _ w47 ⟨rfl,Z⟩
 have Z:=k46 Z c0
 refine L_pick (v:=Bo b24) rfl rfl (congrArg Value.bool (so hb24)) (mB rfl (L_split (d:=24) (b:=b24) rfl (fun hc48=>?_) (fun hc48=>?_)))
 refine fA 3 fa_49_3 rfl rfl (ldB 1 Z Tryz.isAgg3 rfl rfl rfl (fA 3 fa_49_3 rfl rfl (ldB 0 Z Tryz.isAgg3 rfl rfl rfl (L_eql rfl rfl rfl (L_pick (v:=Bo (b24 && (a.bound == b.bound))) rfl rfl (and_t hc48 rfl) (mB rfl (L_split (d:=31) (b:=(b24 && (a.bound == b.bound))) rfl (fun hc49=>?_) (fun hc49=>?_))))))))
 rw [ite_t hc49] at hb32
 obtain ⟨x30,hx30,hb32⟩:=bind_some hb32
 refine fA 4 fa_49_4 rfl rfl (ldB 1 Z Tryz.isAgg47 rfl rfl rfl (fA 4 fa_49_4 rfl rfl (ldB 0 Z Tryz.isAgg47 rfl rfl rfl ?_)))
 obtain ⟨H50b,l51,s52,z53,k54⟩:=Z.borrow
 have hf55 : Fun2 Tryz.prog (rS 3 RP.int) (rS 3 RP.int) false Value.bool slices_Equal_int (.func (.func 51) #[] #[]) H50b:=by
   refine ⟨_,_,rfl,Tryz.call51,fun H_ w_ hE_ hs_ cs1_ cs2_ x1_ x2_ y_ args_ hr1_ hr2_ hy_ ha_=>?_⟩
   obtain ⟨p1_0,rfl,hp1_0⟩:=slice1 hr1_
   obtain ⟨p2_0,rfl,hp2_0⟩:=slice1 hr2_
   obtain rfl:=args_of (b:=#[p1_0,p2_0]) ha_
   exact slices_Equal_int_c (s1:=x1_) (s2:=x2_) hs_ hp1_0 hp2_0 hy_
 refine L_call rfl Tryz.call98 (ops3 rfl rfl rfl) (slices_EqualFunc_Sint_c (s1:=a.rows) (s2:=b.rows) (eq:=slices_Equal_int) s52 (RP.mono _ h0_4 l51) (RP.mono _ h1_4 l51) hf55 hx30) ?_
 rintro _ w56 ⟨rfl,Z⟩
 have Z:=k54 Z c0
 refine L_pick (v:=Bo b32) rfl rfl (congrArg Value.bool (so hb32)) (aB rfl (nn (rj hR33 ⟨rfl,(Star.keepN 0 Z)⟩)))
 rw [ite_f hc49] at hb32
 refine ps rfl (ps rfl (ps rfl (ps rfl (ps rfl (L_pick (v:=Bo b32) rfl rfl (congrArg Value.bool (so hb32)) (aB rfl (nn (rj hR33 ⟨rfl,(Star.keepN 0 Z)⟩))))))))
 refine ps rfl (ps rfl (ps rfl (ps rfl (ps rfl (L_pick (v:=Bo (b24 && (a.bound == b.bound))) rfl rfl (and_f hc48) (mB rfl (L_split (d:=31) (b:=(b24 && (a.bound == b.bound))) rfl (fun hc57=>?_) (fun hc57=>?_))))))))
 rw [ite_t hc57] at hb32
 obtain ⟨x30,hx30,hb32⟩:=bind_some hb32
 refine fA 4 fa_49_4 rfl rfl (ldB 1 Z Tryz.isAgg47 rfl rfl rfl (fA 4 fa_49_4 rfl rfl (ldB 0 Z Tryz.isAgg47 rfl rfl rfl ?_)))
 obtain ⟨H58b,l59,s60,z61,k62⟩:=Z.borrow
 have hf63 : Fun2 Tryz.prog (rS 3 RP.int) (rS 3 RP.int) false Value.bool slices_Equal_int (.func (.func 51) #[] #[]) H58b:=by
   refine ⟨_,_,rfl,Tryz.call51,fun H_ w_ hE_ hs_ cs1_ cs2_ x1_ x2_ y_ args_ hr1_ hr2_ hy_ ha_=>?_⟩
   obtain ⟨p1_0,rfl,hp1_0⟩:=slice1 hr1_
   obtain ⟨p2_0,rfl,hp2_0⟩:=slice1 hr2_
   obtain rfl:=args_of (b:=#[p1_0,p2_0]) ha_
   exact slices_Equal_int_c (s1:=x1_) (s2:=x2_) hs_ hp1_0 hp2_0 hy_
 refine L_call rfl Tryz.call98 (ops3 rfl rfl rfl) (slices_EqualFunc_Sint_c (s1:=a.rows) (s2:=b.rows) (eq:=slices_Equal_int) s60 (RP.mono _ h0_4 l59) (RP.mono _ h1_4 l59) hf63 hx30) ?_
 rintro _ w64 ⟨rfl,Z⟩
 have Z:=k62 Z c0
 refine L_pick (v:=Bo b32) rfl rfl (congrArg Value.bool (so hb32)) (aB rfl (nn (rj hR33 ⟨rfl,(Star.keepN 0 Z)⟩)))
 rw [ite_f hc57] at hb32
 refine ps rfl (ps rfl (ps rfl (ps rfl (ps rfl (L_pick (v:=Bo b32) rfl rfl (congrArg Value.bool (so hb32)) (aB rfl (nn (rj hR33 ⟨rfl,(Star.keepN 0 Z)⟩))))))))
 rw [ite_f hc41] at hb24
 refine ps rfl (ps rfl (ps rfl (ps rfl (ps rfl (L_pick (v:=Bo b24) rfl rfl (congrArg Value.bool (so hb24)) (mB rfl (L_split (d:=24) (b:=b24) rfl (fun hc65=>?_) (fun hc65=>?_))))))))
 refine fA 3 fa_49_3 rfl rfl (ldB 1 Z Tryz.isAgg3 rfl rfl rfl (fA 3 fa_49_3 rfl rfl (ldB 0 Z Tryz.isAgg3 rfl rfl rfl (L_eql rfl rfl rfl (L_pick (v:=Bo (b24 && (a.bound == b.bound))) rfl rfl (and_t hc65 rfl) (mB rfl (L_split (d:=31) (b:=(b24 && (a.bound == b.bound))) rfl (fun hc66=>?_) (fun hc66=>?_))))))))
 rw [ite_t hc66] at hb32
 obtain ⟨x30,hx30,hb32⟩:=bind_some hb32
 refine fA 4 fa_49_4 rfl rfl (ldB 1 Z Tryz.isAgg47 rfl rfl rfl (fA 4 fa_49_4 rfl rfl (ldB 0 Z Tryz.isAgg47 rfl rfl rfl ?_)))
 obtain ⟨H67b,l68,s69,z70,k71⟩:=Z.borrow
 have hf72 : Fun2 Tryz.prog (rS 3 RP.int) (rS 3 RP.int) false Value.bool slices_Equal_int (.func (.func 51) #[] #[]) H67b:=by
   refine ⟨_,_,rfl,Tryz.call51,fun H_ w_ hE_ hs_ cs1_ cs2_ x1_ x2_ y_ args_ hr1_ hr2_ hy_ ha_=>?_⟩
   obtain ⟨p1_0,rfl,hp1_0⟩:=slice1 hr1_
   obtain ⟨p2_0,rfl,hp2_0⟩:=slice1 hr2_
   obtain rfl:=args_of (b:=#[p1_0,p2_0]) ha_
   exact slices_Equal_int_c (s1:=x1_) (s2:=x2_) hs_ hp1_0 hp2_0 hy_
 refine L_call rfl Tryz.call98 (ops3 rfl rfl rfl) (slices_EqualFunc_Sint_c (s1:=a.rows) (s2:=b.rows) (eq:=slices_Equal_int) s69 (RP.mono _ h0_4 l68) (RP.mono _ h1_4 l68) hf72 hx30) ?_
 rintro _ w73 ⟨rfl,Z⟩
 have Z:=k71 Z c0
 refine L_pick (v:=Bo b32) rfl rfl (congrArg Value.bool (so hb32)) (aB rfl (nn (rj hR33 ⟨rfl,(Star.keepN 0 Z)⟩)))
 rw [ite_f hc66] at hb32
 refine ps rfl (ps rfl (ps rfl (ps rfl (ps rfl (L_pick (v:=Bo b32) rfl rfl (congrArg Value.bool (so hb32)) (aB rfl (nn (rj hR33 ⟨rfl,(Star.keepN 0 Z)⟩))))))))
 refine ps rfl (ps rfl (ps rfl (ps rfl (ps rfl (L_pick (v:=Bo (b24 && (a.bound == b.bound))) rfl rfl (and_f hc65) (mB rfl (L_split (d:=31) (b:=(b24 && (a.bound == b.bound))) rfl (fun hc74=>?_) (fun hc74=>?_))))))))
 rw [ite_t hc74] at hb32
 obtain ⟨x30,hx30,hb32⟩:=bind_some hb32
 refine fA 4 fa_49_4 rfl rfl (ldB 1 Z Tryz.isAgg47 rfl rfl rfl (fA 4 fa_49_4 rfl rfl (ldB 0 Z Tryz.isAgg47 rfl rfl rfl ?_)))
 obtain ⟨H75b,l76,s77,z78,k79⟩:=Z.borrow
 have hf80 : Fun2 Tryz.prog (rS 3 RP.int) (rS 3 RP.int) false Value.bool slices_Equal_int (.func (.func 51) #[] #[]) H75b:=by
   refine ⟨_,_,rfl,Tryz.call51,fun H_ w_ hE_ hs_ cs1_ cs2_ x1_ x2_ y_ args_ hr1_ hr2_ hy_ ha_=>?_⟩
   obtain ⟨p1_0,rfl,hp1_0⟩:=slice1 hr1_
   obtain ⟨p2_0,rfl,hp2_0⟩:=slice1 hr2_
   obtain rfl:=args_of (b:=#[p1_0,p2_0]) ha_
   exact slices_Equal_int_c (s1:=x1_) (s2:=x2_) hs_ hp1_0 hp2_0 hy_
 refine L_call rfl Tryz.call98 (ops3 rfl rfl rfl) (slices_EqualFunc_Sint_c (s1:=a.rows) (s2:=b.rows) (eq:=slices_Equal_int) s77 (RP.mono _ h0_4 l76) (RP.mono _ h1_4 l76) hf80 hx30) ?_
 rintro _ w81 ⟨rfl,Z⟩
 have Z:=k79 Z c0
 refine L_pick (v:=Bo b32) rfl rfl (congrArg Value.bool (so hb32)) (aB rfl (nn (rj hR33 ⟨rfl,(Star.keepN 0 Z)⟩)))
 rw [ite_f hc74] at hb32
 refine ps rfl (ps rfl (ps rfl (ps rfl (ps rfl (L_pick (v:=Bo b32) rfl rfl (congrArg Value.bool (so hb32)) (aB rfl (nn (rj hR33 ⟨rfl,(Star.keepN 0 Z)⟩))))))))
 rw [ite_f hc34] at hb16
 refine ps rfl (ps rfl (ps rfl (ps rfl (ps rfl (L_pick (v:=Bo b16) rfl rfl (congrArg Value.bool (so hb16)) (mB rfl (L_split (d:=17) (b:=b16) rfl (fun hc82=>?_) (fun hc82=>?_))))))))
 rw [ite_t hc82] at hb24
 obtain ⟨x22,hx22,hb24⟩:=bind_some hb24
 refine fA 2 fa_49_2 rfl rfl (ldB 1 Z Tryz.isAgg22 rfl rfl rfl (fA 2 fa_49_2 rfl rfl (ldB 0 Z Tryz.isAgg22 rfl rfl rfl ?_)))
 obtain ⟨H83b,l84,s85,z86,k87⟩:=Z.borrow
 refine L_call rfl Tryz.call51 (ops2 rfl rfl) (slices_Equal_int_c (s1:=a.coefs) (s2:=b.coefs) s85 (RP.mono _ h0_2 l84) (RP.mono _ h1_2 l84) hx22) ?_
 rintro _ w88 ⟨rfl,Z⟩
 have Z:=k87 Z c0
 refine L_pick (v:=Bo b24) rfl rfl (congrArg Value.bool (so hb24)) (mB rfl (L_split (d:=24) (b:=b24) rfl (fun hc89=>?_) (fun hc89=>?_)))
 refine fA 3 fa_49_3 rfl rfl (ldB 1 Z Tryz.isAgg3 rfl rfl rfl (fA 3 fa_49_3 rfl rfl (ldB 0 Z Tryz.isAgg3 rfl rfl rfl (L_eql rfl rfl rfl (L_pick (v:=Bo (b24 && (a.bound == b.bound))) rfl rfl (and_t hc89 rfl) (mB rfl (L_split (d:=31) (b:=(b24 && (a.bound == b.bound))) rfl (fun hc90=>?_) (fun hc90=>?_))))))))
 rw [ite_t hc90] at hb32
 obtain ⟨x30,hx30,hb32⟩:=bind_some hb32
 refine fA 4 fa_49_4 rfl rfl (ldB 1 Z Tryz.isAgg47 rfl rfl rfl (fA 4 fa_49_4 rfl rfl (ldB 0 Z Tryz.isAgg47 rfl rfl rfl ?_)))
 obtain ⟨H91b,l92,s93,z94,k95⟩:=Z.borrow
 have hf96 : Fun2 Tryz.prog (rS 3 RP.int) (rS 3 RP.int) false Value.bool slices_Equal_int (.func (.func 51) #[] #[]) H91b:=by
   refine ⟨_,_,rfl,Tryz.call51,fun H_ w_ hE_ hs_ cs1_ cs2_ x1_ x2_ y_ args_ hr1_ hr2_ hy_ ha_=>?_⟩
   obtain ⟨p1_0,rfl,hp1_0⟩:=slice1 hr1_
   obtain ⟨p2_0,rfl,hp2_0⟩:=slice1 hr2_
   obtain rfl:=args_of (b:=#[p1_0,p2_0]) ha_
   exact slices_Equal_int_c (s1:=x1_) (s2:=x2_) hs_ hp1_0 hp2_0 hy_
 refine L_call rfl Tryz.call98 (ops3 rfl rfl rfl) (slices_EqualFunc_Sint_c (s1:=a.rows) (s2:=b.rows) (eq:=slices_Equal_int) s93 (RP.mono _ h0_4 l92) (RP.mono _ h1_4 l92) hf96 hx30) ?_
 rintro _ w97 ⟨rfl,Z⟩
 have Z:=k95 Z c0
 refine L_pick (v:=Bo b32) rfl rfl (congrArg Value.bool (so hb32)) (aB rfl (nn (rj hR33 ⟨rfl,(Star.keepN 0 Z)⟩)))
 rw [ite_f hc90] at hb32
 refine ps rfl (ps rfl (ps rfl (ps rfl (ps rfl (L_pick (v:=Bo b32) rfl rfl (congrArg Value.bool (so hb32)) (aB rfl (nn (rj hR33 ⟨rfl,(Star.keepN 0 Z)⟩))))))))
 refine ps rfl (ps rfl (ps rfl (ps rfl (ps rfl (L_pick (v:=Bo (b24 && (a.bound == b.bound))) rfl rfl (and_f hc89) (mB rfl (L_split (d:=31) (b:=(b24 && (a.bound == b.bound))) rfl (fun hc98=>?_) (fun hc98=>?_))))))))
 rw [ite_t hc98] at hb32
 obtain ⟨x30,hx30,hb32⟩:=bind_some hb32
 refine fA 4 fa_49_4 rfl rfl (ldB 1 Z Tryz.isAgg47 rfl rfl rfl (fA 4 fa_49_4 rfl rfl (ldB 0 Z Tryz.isAgg47 rfl rfl rfl ?_)))
 obtain ⟨H99b,l100,s101,z102,k103⟩:=Z.borrow
 have hf104 : Fun2 Tryz.prog (rS 3 RP.int) (rS 3 RP.int) false Value.bool slices_Equal_int (.func (.func 51) #[] #[]) H99b:=by
   refine ⟨_,_,rfl,Tryz.call51,fun H_ w_ hE_ hs_ cs1_ cs2_ x1_ x2_ y_ args_ hr1_ hr2_ hy_ ha_=>?_⟩
   obtain ⟨p1_0,rfl,hp1_0⟩:=slice1 hr1_
   obtain ⟨p2_0,rfl,hp2_0⟩:=slice1 hr2_
   obtain rfl:=args_of (b:=#[p1_0,p2_0]) ha_
   exact slices_Equal_int_c (s1:=x1_) (s2:=x2_) hs_ hp1_0 hp2_0 hy_
 refine L_call rfl Tryz.call98 (ops3 rfl rfl rfl) (slices_EqualFunc_Sint_c (s1:=a.rows) (s2:=b.rows) (eq:=slices_Equal_int) s101 (RP.mono _ h0_4 l100) (RP.mono _ h1_4 l100) hf104 hx30) ?_
 rintro _ w105 ⟨rfl,Z⟩
 have Z:=k103 Z c0
 refine L_pick (v:=Bo b32) rfl rfl (congrArg Value.bool (so hb32)) (aB rfl (nn (rj hR33 ⟨rfl,(Star.keepN 0 Z)⟩)))
 rw [ite_f hc98] at hb32
 refine ps rfl (ps rfl (ps rfl (ps rfl (ps rfl (L_pick (v:=Bo b32) rfl rfl (congrArg Value.bool (so hb32)) (aB rfl (nn (rj hR33 ⟨rfl,(Star.keepN 0 Z)⟩))))))))
 rw [ite_f hc82] at hb24
 refine ps rfl (ps rfl (ps rfl (ps rfl (ps rfl (L_pick (v:=Bo b24) rfl rfl (congrArg Value.bool (so hb24)) (mB rfl (L_split (d:=24) (b:=b24) rfl (fun hc106=>?_) (fun hc106=>?_))))))))
 refine fA 3 fa_49_3 rfl rfl (ldB 1 Z Tryz.isAgg3 rfl rfl rfl (fA 3 fa_49_3 rfl rfl (ldB 0 Z Tryz.isAgg3 rfl rfl rfl (L_eql rfl rfl rfl (L_pick (v:=Bo (b24 && (a.bound == b.bound))) rfl rfl (and_t hc106 rfl) (mB rfl (L_split (d:=31) (b:=(b24 && (a.bound == b.bound))) rfl (fun hc107=>?_) (fun hc107=>?_))))))))
 rw [ite_t hc107] at hb32
 obtain ⟨x30,hx30,hb32⟩:=bind_some hb32
 refine fA 4 fa_49_4 rfl rfl (ldB 1 Z Tryz.isAgg47 rfl rfl rfl (fA 4 fa_49_4 rfl rfl (ldB 0 Z Tryz.isAgg47 rfl rfl rfl ?_)))
 obtain ⟨H108b,l109,s110,z111,k112⟩:=Z.borrow
 have hf113 : Fun2 Tryz.prog (rS 3 RP.int) (rS 3 RP.int) false Value.bool slices_Equal_int (.func (.func 51) #[] #[]) H108b:=by
   refine ⟨_,_,rfl,Tryz.call51,fun H_ w_ hE_ hs_ cs1_ cs2_ x1_ x2_ y_ args_ hr1_ hr2_ hy_ ha_=>?_⟩
   obtain ⟨p1_0,rfl,hp1_0⟩:=slice1 hr1_
   obtain ⟨p2_0,rfl,hp2_0⟩:=slice1 hr2_
   obtain rfl:=args_of (b:=#[p1_0,p2_0]) ha_
   exact slices_Equal_int_c (s1:=x1_) (s2:=x2_) hs_ hp1_0 hp2_0 hy_
 refine L_call rfl Tryz.call98 (ops3 rfl rfl rfl) (slices_EqualFunc_Sint_c (s1:=a.rows) (s2:=b.rows) (eq:=slices_Equal_int) s110 (RP.mono _ h0_4 l109) (RP.mono _ h1_4 l109) hf113 hx30) ?_
 rintro _ w114 ⟨rfl,Z⟩
 have Z:=k112 Z c0
 refine L_pick (v:=Bo b32) rfl rfl (congrArg Value.bool (so hb32)) (aB rfl (nn (rj hR33 ⟨rfl,(Star.keepN 0 Z)⟩)))
 rw [ite_f hc107] at hb32
 refine ps rfl (ps rfl (ps rfl (ps rfl (ps rfl (L_pick (v:=Bo b32) rfl rfl (congrArg Value.bool (so hb32)) (aB rfl (nn (rj hR33 ⟨rfl,(Star.keepN 0 Z)⟩))))))))
 refine ps rfl (ps rfl (ps rfl (ps rfl (ps rfl (L_pick (v:=Bo (b24 && (a.bound == b.bound))) rfl rfl (and_f hc106) (mB rfl (L_split (d:=31) (b:=(b24 && (a.bound == b.bound))) rfl (fun hc115=>?_) (fun hc115=>?_))))))))
 rw [ite_t hc115] at hb32
 obtain ⟨x30,hx30,hb32⟩:=bind_some hb32
 refine fA 4 fa_49_4 rfl rfl (ldB 1 Z Tryz.isAgg47 rfl rfl rfl (fA 4 fa_49_4 rfl rfl (ldB 0 Z Tryz.isAgg47 rfl rfl rfl ?_)))
 obtain ⟨H116b,l117,s118,z119,k120⟩:=Z.borrow
 have hf121 : Fun2 Tryz.prog (rS 3 RP.int) (rS 3 RP.int) false Value.bool slices_Equal_int (.func (.func 51) #[] #[]) H116b:=by
   refine ⟨_,_,rfl,Tryz.call51,fun H_ w_ hE_ hs_ cs1_ cs2_ x1_ x2_ y_ args_ hr1_ hr2_ hy_ ha_=>?_⟩
   obtain ⟨p1_0,rfl,hp1_0⟩:=slice1 hr1_
   obtain ⟨p2_0,rfl,hp2_0⟩:=slice1 hr2_
   obtain rfl:=args_of (b:=#[p1_0,p2_0]) ha_
   exact slices_Equal_int_c (s1:=x1_) (s2:=x2_) hs_ hp1_0 hp2_0 hy_
 refine L_call rfl Tryz.call98 (ops3 rfl rfl rfl) (slices_EqualFunc_Sint_c (s1:=a.rows) (s2:=b.rows) (eq:=slices_Equal_int) s118 (RP.mono _ h0_4 l117) (RP.mono _ h1_4 l117) hf121 hx30) ?_
 rintro _ w122 ⟨rfl,Z⟩
 have Z:=k120 Z c0
 refine L_pick (v:=Bo b32) rfl rfl (congrArg Value.bool (so hb32)) (aB rfl (nn (rj hR33 ⟨rfl,(Star.keepN 0 Z)⟩)))
 rw [ite_f hc115] at hb32
 refine ps rfl (ps rfl (ps rfl (ps rfl (ps rfl (L_pick (v:=Bo b32) rfl rfl (congrArg Value.bool (so hb32)) (aB rfl (nn (rj hR33 ⟨rfl,(Star.keepN 0 Z)⟩))))))))
 intro f w_ hR
 obtain ⟨sf4,Z⟩:=rk hR33 hR
 refine W_ret (retG1 (v1:=Bo b32) Tryz.results53 sf4 ?_)
 obtain rfl:=so hF
 exact ⟨rfl,Z⟩
theorem i_ModelSame_c {a : Model} {b : Model} {v0_0 : Value} {v0_1 : Value} {v1_0 : Value} {v1_1 : Value} {H : FH} {w : World} (Z : Star H w []) (h0_0 : (rS 3 RP.int).rel H [v0_0] a.sizes) (h0_1 : (rS 49 (rRule 3 22)).rel H [v0_1] a.rules) (h1_0 : (rS 3 RP.int).rel H [v1_0] b.sizes) (h1_1 : (rS 49 (rRule 3 22)).rel H [v1_1] b.rules) {r : Bool} (hF : i_ModelSame a b = some r) :
 C Tryz.prog 17 #[.agg #[v0_0,v0_1],.agg #[v1_0,v1_1]] w fun v w'=>v = Bo r∧Star H w' []:=by
 unfold i_ModelSame at hF
 refine C_enter Tryz.func17 rfl Tryz.ntmps17 rfl (sq (L_box (v:=.agg #[v0_0,v0_1]) (cs:=#[v0_0,v0_1]) rfl rfl rfl Z (fun g5 w6 Z=>L_box (v:=.agg #[v1_0,v1_1]) (cs:=#[v1_0,v1_1]) rfl rfl rfl Z (fun g7 w8 Z=>aB rfl (nq ?_)))))
 obtain ⟨x14,hx14,hF⟩:=bind_some hF
 obtain ⟨b23,hb23,hF⟩:=bind_some hF
 obtain ⟨R24,hR24⟩:=exR fun f w_=>f 4 = Bo b23∧Star H w_ ([])
 refine W_join R24 ?_ ?_
 refine W_region (fA 0 fa_25_0 rfl rfl (ldB 1 Z Tryz.isAgg22 rfl rfl rfl (fA 0 fa_25_0 rfl rfl (ldB 0 Z Tryz.isAgg22 rfl rfl rfl ?_))))
 obtain ⟨H25b,l26,s27,z28,k29⟩:=Z.borrow
 refine L_call rfl Tryz.call51 (ops2 rfl rfl) (slices_Equal_int_c (s1:=a.sizes) (s2:=b.sizes) s27 (RP.mono _ h0_0 l26) (RP.mono _ h1_0 l26) hx14) ?_
 rintro _ w30 ⟨rfl,Z⟩
 have Z:=k29 Z c0
 refine mB rfl (L_split (d:=10) (b:=x14) rfl (fun hc31=>?_) (fun hc31=>?_))
 rw [ite_t hc31] at hb23
 obtain ⟨x21,hx21,hb23⟩:=bind_some hb23
 refine fA 1 fa_25_1 rfl rfl (ldB 1 Z Tryz.isAgg23 rfl rfl rfl (fA 1 fa_25_1 rfl rfl (ldB 0 Z Tryz.isAgg23 rfl rfl rfl ?_)))
 obtain ⟨H32b,l33,s34,z35,k36⟩:=Z.borrow
 have hf37 : Fun2 Tryz.prog (rRule 3 22) (rRule 3 22) true Value.bool i_sameRule (.func (.func 53) #[] #[]) H32b:=by
   refine ⟨_,_,rfl,Tryz.call53,fun H_ w_ hE_ hs_ cs1_ cs2_ x1_ x2_ y_ args_ hr1_ hr2_ hy_ ha_=>?_⟩
   obtain ⟨p1_0,p1_1,p1_2,rfl,hp1_0,hp1_1,hp1_2⟩:=rRule_iff.1 hr1_
   obtain ⟨p2_0,p2_1,p2_2,rfl,hp2_0,hp2_1,hp2_2⟩:=rRule_iff.1 hr2_
   obtain rfl:=args_of (b:=#[.agg #[I x1_.kind,p1_0,p1_1,I x1_.bound,p1_2],.agg #[I x2_.kind,p2_0,p2_1,I x2_.bound,p2_2]]) ha_
   exact i_sameRule_c (a:=x1_) (b:=x2_) hs_ hp1_0 hp1_1 hp1_2 hp2_0 hp2_1 hp2_2 hy_
 refine L_call rfl Tryz.call52 (ops3 rfl rfl rfl) (slices_EqualFunc_implRule_c (s1:=a.rules) (s2:=b.rules) (eq:=i_sameRule) s34 (RP.mono _ h0_1 l33) (RP.mono _ h1_1 l33) hf37 hx21) ?_
 rintro _ w38 ⟨rfl,Z⟩
 have Z:=k36 Z c0
 refine L_pick (v:=Bo b23) rfl rfl (congrArg Value.bool (so hb23)) (aB rfl (nn (rj hR24 ⟨rfl,(Star.keepN 0 Z)⟩)))
 rw [ite_f hc31] at hb23
 refine ps rfl (ps rfl (ps rfl (ps rfl (ps rfl (L_pick (v:=Bo b23) rfl rfl (congrArg Value.bool (so hb23)) (aB rfl (nn (rj hR24 ⟨rfl,(Star.keepN 0 Z)⟩))))))))
 intro f w_ hR
 obtain ⟨sf4,Z⟩:=rk hR24 hR
 refine W_ret (retG1 (v1:=Bo b23) Tryz.results17 sf4 ?_)
 obtain rfl:=so hF
 exact ⟨rfl,Z⟩
theorem s_l17Rd_of_c {r_ : Rd} {list : List ByteArray} {g_0 : Nat} {v0_0 : Value} {v1 : Value} {H : FH} {w : World} (Z : Star H w [box g_0 117 #[v0_0,I r_.p]]) (h0_0 : (rS 5 RP.u8).rel H [v0_0] r_.b) (h1 : (rS 9 RP.str).rel H [v1] list) {r : ByteArray × Int} (hF : s_l17Rd_of r_ list = some r) :
 C Tryz.prog 99 #[Pt g_0,v1] w fun v w'=>v = .string r.1∧Star H w' [box g_0 117 #[v0_0,I r.2]]:=by
 unfold s_l17Rd_of at hF
 refine C_enter Tryz.func99 rfl Tryz.ntmps99 rfl (sq (aV (.string (⟨#[]⟩ : ByteArray)) rfl (nq ?_)))
 obtain ⟨x6,hx6,hF⟩:=bind_some hF
 obtain ⟨x8,hx8,hF⟩:=bind_some hF
 refine W_region (mV v1 rfl (mV (Pt g_0) rfl (mV v1 rfl (L_len rfl Tryz.underlying44 rfl (slice_len h1) ?_))))
 obtain ⟨H13b,l14,s15,z16,k17⟩:=Z.lend [_]
 refine L_call rfl Tryz.call63 (ops2 rfl rfl) (s_l17Rd_pick_c (r_:=r_) (n_:=(list.length : Int)) s15 (RP.mono _ h0_0 l14) hx6) ?_
 rintro _ w18 ⟨rfl,Z⟩
 have Z:=k17 Z (cb c0)
 refine L_ix (r:=RP.str) rfl Tryz.underlying44 Tryz.sizeOf9 rfl h1 rfl hx8 (fun g19 o20 cs_g19 hrk_hat21 hat21=>?_)
 obtain rfl : _ = [_]:=hrk_hat21
 refine L_ld rfl Tryz.isAgg9 rfl (At.cell (AtH.at hat21 Z.sub) (j:=0) rfl) (aV (.string x8) rfl (nn (W_ret (retG1 (v1:=.string x8) Tryz.results99 rfl ?_))))
 obtain rfl:=so hF
 exact ⟨rfl,Z⟩
theorem s_l1Bend_c {r_ : Rd} {s : ByteArray} {bits : List ByteArray} {g_0 : Nat} {v0_0 : Value} {v2 : Value} {H : FH} {w : World} (Z : Star H w [box g_0 117 #[v0_0,I r_.p]]) (h0_0 : (rS 5 RP.u8).rel H [v0_0] r_.b) (h2 : (rS 9 RP.str).rel H [v2] bits) {r : ByteArray × Int} (hF : s_l1Bend r_ s bits = some r) :
 C Tryz.prog 55 #[Pt g_0,.string s,v2] w fun v w'=>v = .string r.1∧Star H w' [box g_0 117 #[v0_0,I r.2]]:=by
 unfold s_l1Bend at hF
 refine C_enter Tryz.func55 rfl Tryz.ntmps55 rfl (sq (aV (.string (⟨#[]⟩ : ByteArray)) rfl (nq (W_seq ?_))))
 obtain ⟨b8,hb8,hF⟩:=bind_some hF
 obtain ⟨R9,hR9⟩:=exR fun f w_=>f 0 = Pt g_0∧f 1 = .string s∧f 2 = v2∧f 15 = Bo b8.1∧Star H w_ ([box g_0 117 #[v0_0,I b8.2]])
 refine W_join R9 ?_ ?_
 refine W_region (mV (.string s) rfl (L_slen (s:=s) rfl Tryz.underlying9 rfl (L_eql rfl rfl rfl (mB rfl (L_split (d:=11) (b:=((s.size : Int) == 0)) rfl (fun hc10=>?_) (fun hc10=>?_))))))
 rw [ite_t hc10] at hb8
 refine ps rfl (ps rfl (ps rfl (L_pick (v:=Bo b8.1) rfl rfl (congrArg (fun z : Bool × Int=>Value.bool z.1) (so hb8)) ?_)))
 have Z : Star H w ([box g_0 117 #[v0_0,I b8.2]]):=by rw [← so hb8]; exact Z
 refine nn (rj hR9 ⟨rfl,rfl,rfl,rfl,Z⟩)
 rw [ite_f hc10] at hb8
 obtain ⟨x6,hx6,hb8⟩:=bind_some hb8
 refine mV (Pt g_0) rfl ?_
 obtain ⟨H11b,l12,s13,z14,k15⟩:=Z.lend [_]
 refine L_call rfl Tryz.call63 (ops2 rfl rfl) (s_l17Rd_pick_c (r_:=r_) (n_:=2) s13 (RP.mono _ h0_0 l12) hx6) ?_
 rintro _ w16 ⟨rfl,Z⟩
 have Z:=k15 Z (cb c0)
 refine L_eql rfl rfl rfl (L_pick (v:=Bo b8.1) rfl rfl (congrArg (fun z : Bool × Int=>Value.bool z.1) (so hb8)) ?_)
 have Z : Star H w16 ([box g_0 117 #[v0_0,I b8.2]]):=by rw [← so hb8]; exact Z
 refine nn (rj hR9 ⟨rfl,rfl,rfl,rfl,Z⟩)
 intro f w_ hR
 obtain ⟨sf0,sf1,sf2,sf15,Z⟩:=rk hR9 hR
 refine W_cond (b:=b8.1) sf15 (fun hc17=>?_) (fun hc17=>?_)
 have hF:=(ite_t hc17).symm.trans hF
 refine sq (mF sf1 rfl (aV (.string s) rfl (nn (W_ret (retG1 (v1:=.string s) Tryz.results55 rfl ?_)))))
 obtain rfl:=so hF
 exact ⟨rfl,Z⟩
 have hF:=(ite_f hc17).symm.trans hF
 refine W_skip (W_seq ?_)
 obtain ⟨x23,hx23,hF⟩:=bind_some hF
 refine W_region (mF sf0 rfl (mF sf1 rfl (L_slen (s:=s) rfl Tryz.underlying9 rfl ?_)))
 obtain ⟨H25b,l26,s27,z28,k29⟩:=Z.lend [_]
 refine L_call rfl Tryz.call63 (ops2 rfl rfl) (s_l17Rd_pick_c (r_:=({ b:=r_.b,p:=b8.2 } : Rd)) (n_:=(s.size : Int)) s27 (RP.mono _ h0_0 l26) hx23) ?_
 rintro _ w30 ⟨rfl,Z⟩
 have Z:=k29 Z (cb c0)
 refine aI rfl (nq ?_)
 obtain ⟨x31,hx31,hF⟩:=bind_some hF
 obtain ⟨x37,hx37,hF⟩:=bind_some hF
 obtain ⟨x39,hx39,hF⟩:=bind_some hF
 obtain ⟨x45,hx45,hF⟩:=bind_some hF
 obtain ⟨x47,hx47,hF⟩:=bind_some hF
 obtain ⟨x48,hx48,hF⟩:=bind_some hF
 refine W_drawS 13 [isV (.string s),isV (I x23.1),isV (.string x31),isV (Pt g_0),isV (v2),isV (.string x37.1),isV (.string x39),isV (.string s),isV (I x23.1),isV (Pt g_0),isV (I x45.1),isV (I (i64 (x23.1 + x45.1))),isV (.string x47)] [] [.base (box g_0 117 #[v0_0,I x23.2]) (some 5),.made 5 26 (fun v_=>box g_0 117 #[v0_0,I x37.2]) (some 10),.made 10 31 (fun v_=>box g_0 117 #[v0_0,I x45.2]) none] ([]) [([],[]),([],[]),([],[]),([],[]),([],[]),([0],[1]),([],[]),([],[]),([],[]),([],[]),([1],[2]),([],[]),([],[])] (S:=[(none,[],some 5),(some 5,[26],some 10),(some 10,[31],none)]) Tryz_mix (by kernel_rfl) rfl (by kernel_rfl) (amF_cons (mono_V _) (amF_cons (mono_V _) (amF_cons (mono_V _) (amF_cons (mono_V _) (amF_cons (mono_V _) (amF_cons (mono_V _) (amF_cons (mono_V _) (amF_cons (mono_V _) (amF_cons (mono_V _) (amF_cons (mono_V _) (amF_cons (mono_V _) (amF_cons (mono_V _) (amF_cons (mono_V _) amF_nil))))))))))))) Z ?_ (fun f w_ H49 hS49 hE49 hT49 Z=>?_)
 refine opsS_cons (fun f w_ _ _ s _ _ Z=>mF ((s 1 rfl).trans sf1) rfl (nO rfl rfl Z)) (opsS_cons (fun f w_ _ _ s _ _ Z=>mF ((s 7 rfl).trans rfl) rfl (nO rfl rfl Z)) (opsS_cons (fun f w_ _ _ _ _ p Z=>L_ssl (a:=0) (b:=x23.1) rfl Tryz.underlying9 (p 0 21 rfl rfl) rfl (p 1 22 rfl rfl) hx31 (nO rfl rfl Z)) (opsS_cons (fun f w_ _ _ s _ _ Z=>mF ((s 0 rfl).trans sf0) rfl (nO rfl rfl Z)) (opsS_cons (fun f w_ _ _ s _ _ Z=>mF ((s 2 rfl).trans sf2) rfl (nO rfl rfl Z)) (opsS_cons ?_ ?_)))))
 intro f w_ H49 X49 hS49 hE49 hP49 Z
 have Z : Star H49 w_ (box g_0 117 #[v0_0,I x23.2] :: X49):=Z
 obtain ⟨H62b,l63,s64,z65,k66⟩:=Z.lend [_]
 refine L_call rfl Tryz.call99 (ops2 (hP49 3 24 rfl rfl) (hP49 4 25 rfl rfl)) (s_l17Rd_of_c (r_:=({ b:=r_.b,p:=x23.2 } : Rd)) (list:=bits) s64 (RP.mono _ h0_0 (Le.trans hE49 l63)) (RP.mono _ h2 (Le.trans hE49 l63)) hx37) ?_
 rintro _ w67 ⟨rfl,Z⟩
 have Z:=k66 Z (cb c0)
 exact L_nil ⟨rfl,_,_,rfl,Le.refl _,fun _ _=>rfl,Z⟩
 refine opsS_cons ?_ ?_
 intro f w_ H49 X49 hS49 hE49 hP49 Z
 obtain ⟨hx39_l,hx39_e⟩:=cat_some hx39
 refine L_sadd (s:=x31) (s':=x37.1) rfl (hP49 2 23 rfl rfl) (hP49 5 26 rfl rfl) hx39_l ?_
 rw [← hx39_e]
 exact L_nil ⟨rfl,_,_,rfl,Le.refl _,fun _ _=>rfl,Z⟩
 refine opsS_cons (fun f w_ _ _ s _ _ Z=>mF ((s 1 rfl).trans sf1) rfl (nO rfl rfl Z)) (opsS_cons (fun f w_ _ _ s _ _ Z=>mF ((s 7 rfl).trans rfl) rfl (nO rfl rfl Z)) (opsS_cons (fun f w_ _ _ s _ _ Z=>mF ((s 0 rfl).trans sf0) rfl (nO rfl rfl Z)) (opsS_cons ?_ ?_)))
 intro f w_ H49 X49 hS49 hE49 hP49 Z
 have Z : Star H49 w_ (box g_0 117 #[v0_0,I x37.2] :: X49):=Z
 obtain ⟨H68b,l69,s70,z71,k72⟩:=Z.lend [_]
 refine L_call rfl Tryz.call63 (ops2 (hP49 9 30 rfl rfl) rfl) (s_l17Rd_pick_c (r_:=({ b:=r_.b,p:=x37.2 } : Rd)) (n_:=2) s70 (RP.mono _ h0_0 (Le.trans hE49 l69)) hx45) ?_
 rintro _ w73 ⟨rfl,Z⟩
 have Z:=k72 Z (cb c0)
 exact L_nil ⟨rfl,_,_,rfl,Le.refl _,fun _ _=>rfl,Z⟩
 refine opsS_cons (fun f w_ _ _ _ _ p Z=>L_add rfl (p 8 29 rfl rfl) (p 10 31 rfl rfl) (nO rfl rfl Z)) (opsS_cons (fun f w_ _ _ _ _ p Z=>L_ssl (a:=i64 (x23.1 + x45.1)) (b:=(s.size : Int)) rfl Tryz.underlying9 (p 7 28 rfl rfl) (p 11 32 rfl rfl) rfl hx47 (nO rfl rfl Z)) (opsS_nil))
 have Z : Star H49 w_ ([box g_0 117 #[v0_0,I x45.2]]):=Z
 obtain ⟨hx48_l,hx48_e⟩:=cat_some hx48
 refine L_sadd (s:=x39) (s':=x47) rfl (hT49 6 27 rfl rfl) (hT49 12 33 rfl rfl) hx48_l ?_
 rw [← hx48_e]
 refine aV (.string x48) rfl (nn (W_ret (retG1 (v1:=.string x48) Tryz.results55 rfl ?_)))
 obtain rfl:=so hF
 exact ⟨rfl,(Star.down Z hE49 (cb c0))⟩
end Go.Proofs.YtohpkefnmkdaeaaGreatDoor

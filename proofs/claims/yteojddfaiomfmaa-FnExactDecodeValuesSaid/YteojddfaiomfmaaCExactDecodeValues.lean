/- The law FnExactDecodeValues answers true at every input, and its arguments read afterwards as before. There is no condition. -/
import Derived.Test.YteojddfaiomfmaaW3
import Derived.Test.YteojddfaiomfmaaG9
import Derived.Test.YteojddfaiomfmaaG10
import Derived.Test.YteojddfaiomfmaaK14
import Derived.Test.YteojddfaiomfmaaChecked
import Derived.Test.YteojddfaiomfmaaRows
namespace Go.Proofs.Yteojddfaiomfmaa
open Go Go.E Go.L Go.RowKit Go.ChangeShapes Go.WideShapes Go.ChangeAt
set_option linter.unusedVariables false
theorem own : ownKnob Try.prog.godebug = none := by kernel_rfl
theorem opn_3 : Opn Try.prog 3 RP.int InI64 := opn_int Try.underlying3 (by kernel_rfl)
theorem opn_22 : Opn Try.prog 22 (RP.slice 3 RP.int) gInts := opn_ints Try.underlying22 (by kernel_rfl) opn_3
theorem opn_66 : Opn Try.prog 66 (RP.slice 22 (RP.slice 3 RP.int)) gIntss := opn_intss Try.underlying66 (by kernel_rfl) opn_22
theorem opn_76 : Opn Try.prog 76 (rRule 3 22) gRule := opn_rule Try.underlying76 rfl (by kernel_rfl) opn_3 opn_22 opn_22 opn_3 opn_66 rfl rfl rfl rfl rfl
theorem opn_23 : Opn Try.prog 23 (RP.slice 76 (rRule 3 22)) gRules := opn_rules Try.underlying23 (by kernel_rfl) opn_76
theorem opn_25 : Opn Try.prog 25 (rModel 3 22 76) gModel := opn_model Try.underlying25 rfl (by kernel_rfl) opn_22 opn_23 rfl rfl
theorem opn_4 : Opn Try.prog 4 RP.bool (fun _ => True) := opn_bool Try.underlying4 (by kernel_rfl)
theorem opn_46 : Opn Try.prog 46 (RP.slice 4 RP.bool) gBools := opn_bools Try.underlying46 (by kernel_rfl) opn_4
set_option maxRecDepth 100000 in
theorem lifted (os : Os) (started : os.Started) (H : Type) (enc : TypeId × Value → H) :
    ReturnsInHanded {} Try.checked os 9 .any (Rows.fnExactDecodeValuesSpec.pre6 enc Try.prog Try.f9 Rows.fnExactDecodeValuesRow.domain false) (Rows.fnExactDecodeValuesSpec.post enc Try.prog Try.f9 false true false false) := by
  refine returnsInHanded_of_change (C := Try.checked) own started (by kernel_rfl) Try.func9
    (ChangeSpec.witness6 (enc := enc) (C := Try.checked) false ⟨#[], #[.agg #[.slice none 0 0, .slice none 0 0], .slice none 0 0], []⟩ 8 (by kernel_rfl) (by kernel_rfl) (by kernel_rfl) (by kernel_rfl)) ?_
  intro W base args ds gs before hval0 hW hcnd _
  have hval : ∀ (j : Nat) t v, Try.f9.params[j]? = some t → args[j]? = some v → Value.okWide Try.prog W .any base t v := hval0
  have hW1 : DataW.Whole enc Try.prog Try.f9.params.toList Rows.fnExactDecodeValuesSpec.vars false W args.toList ds gs before := hW
  have hW2 := hW1
  obtain ⟨p, q, hA0, hV, rfl, hfz, hnd⟩ := hW2
  have hA : DataW.TrodAll enc Try.prog W 0 (fun _ => true) true Try.f9.params.toList args.toList ds p := hA0
  rw [Try.params9] at hA hval
  obtain ⟨v0, vs0, d0, ds0, p0, q0, hargs, rfl, rfl, h0, r0⟩ := trodAll_cons hA
  obtain ⟨v1, vs1, d1, ds1, p1, q1, rfl, rfl, rfl, h1, r1⟩ := trodAll_cons r0
  obtain ⟨rfl, rfl, rfl⟩ := trodAll_nil r1
  obtain rfl : args = #[v0, v1] := args_of hargs
  obtain ⟨rfl, rfl⟩ := trodVars_none hV
  obtain ⟨cs0, a0, rfl, e0, g0⟩ := opn_struct_arg opn_25 Try.underlying25 (hval 0 25 v0 rfl rfl) h0
  obtain ⟨m0_0, m0_1, rfl, hm0_0, hm0_1⟩ := rModel_iff.1 e0
  obtain ⟨a1, e1, g1⟩ := opn_slice_arg opn_46 Try.underlying46 (hval 1 46 v1 rfl rfl) h1
  obtain ⟨fu, hF⟩ := FnExactDecodeValues_ok a0 a1 g0 g1
  refine Calls.mono (l_FnExactDecodeValues_c (Star.of_sub (sub_full W)) hm0_0 hm0_1 e1 hF) ?_
  rintro _ W' ⟨_, rfl, rfl, hst⟩
  have hb := below_full hst.sub
  exact ⟨_, rfl, post_true (by kernel_rfl) (by kernel_rfl) hW1 rfl rfl rfl rfl rfl Try.underlying4 hb⟩

def headRest : List Char := List.map Char.ofNat [97, 116, 32, 108, 111, 111, 112, 46, 101, 120, 97, 109, 112, 108, 101, 47, 99, 117, 116, 116, 105, 110, 103, 112, 108, 97, 110, 101, 115, 47, 108, 97, 119, 115, 46, 70, 110, 69, 120, 97, 99, 116, 66, 111, 111, 108, 86, 97, 114, 32, 108, 111, 111, 112, 46, 101, 120, 97, 109, 112, 108, 101, 47, 99, 117, 116, 116, 105, 110, 103, 112, 108, 97, 110, 101, 115, 47, 108, 97, 119, 115, 46, 70, 110, 69, 120, 97, 99, 116, 70, 114, 101, 101, 86, 97, 114, 115, 32, 108, 111, 111, 112, 46, 101, 120, 97, 109, 112, 108, 101, 47, 99, 117, 116, 116, 105, 110, 103, 112, 108, 97, 110, 101, 115, 47, 108, 97, 119, 115, 46, 70, 110, 69, 120, 97, 99, 116, 68, 111, 109, 97, 105, 110, 115, 86, 97, 108, 105, 100, 32, 108, 111, 111, 112, 46, 101, 120, 97, 109, 112, 108, 101, 47, 99, 117, 116, 116, 105, 110, 103, 112, 108, 97, 110, 101, 115, 47, 108, 97, 119, 115, 46, 70, 110, 69, 120, 97, 99, 116, 82, 117, 108, 101, 72, 111, 108, 100, 115, 32, 108, 111, 111, 112, 46, 101, 120, 97, 109, 112, 108, 101, 47, 99, 117, 116, 116, 105, 110, 103, 112, 108, 97, 110, 101, 115, 47, 108, 97, 119, 115, 46, 70, 110, 69, 120, 97, 99, 116, 69, 110, 99, 111, 100, 101, 67, 101, 108, 108, 115, 32, 108, 111, 111, 112, 46, 101, 120, 97, 109, 112, 108, 101, 47, 99, 117, 116, 116, 105, 110, 103, 112, 108, 97, 110, 101, 115, 47, 108, 97, 119, 115, 46, 70, 110, 69, 120, 97, 99, 116, 83, 111, 108, 118, 101, 115, 77, 111, 100, 101, 108, 32, 108, 111, 111, 112, 46, 101, 120, 97, 109, 112, 108, 101, 47, 99, 117, 116, 116, 105, 110, 103, 112, 108, 97, 110, 101, 115, 47, 108, 97, 119, 115, 46, 70, 110, 69, 120, 97, 99, 116, 68, 101, 99, 111, 100, 101, 86, 97, 108, 117, 101, 115, 32, 108, 111, 111, 112, 46, 101, 120, 97, 109, 112, 108, 101, 47, 99, 117, 116, 116, 105, 110, 103, 112, 108, 97, 110, 101, 115, 47, 108, 97, 119, 115, 46, 70, 110, 69, 120, 97, 99, 116, 67, 111, 117, 110, 116, 77, 111, 100, 101, 108]
def headSum : List Char := List.map Char.ofNat [56, 53, 98, 55, 48, 55, 52, 99, 97, 57, 97, 53, 97, 99, 97, 54, 56, 51, 51, 50, 51, 55, 100, 54, 49, 101, 100, 97, 48, 51, 50, 54, 53, 102, 54, 54, 97, 49, 97, 48, 51, 51, 100, 52, 56, 51, 98, 99, 102, 48, 97, 53, 57, 55, 97, 52, 102, 51, 97, 55, 55, 56, 57, 55]
theorem hd0 : Try.prog.initOrder = String.ofList ("harness".toList ++ Char.ofNat 32 :: (headSum ++ Char.ofNat 32 :: ( "cut".toList ++ Char.ofNat 32 :: headRest))) := by kernel_rfl
theorem hd : HeadIs Try.prog headSum headRest := by unfold HeadIs; rw [hd0, String.toList_ofList]
theorem hs1 : isSumSigns headSum = true := by kernel_rfl
theorem hs2 : headSum.all (fun c => c != Char.ofNat 32) = true := by kernel_rfl
theorem f1 : laidOutB Try.prog = true := by kernel_rfl
theorem f2 : mapsRowed Try.prog = true := by kernel_rfl
theorem f3 : Try.prog.inPlace 9 = [] := by kernel_rfl
theorem f4 : Try.prog.unfollowed 9 = true := by kernel_rfl
theorem f5 : Try.prog.recurses 9 = true := by kernel_rfl
theorem f6 : Try.prog.varsNamed 9 = [] := by kernel_rfl
theorem f7 : Try.prog.stops = [] := by kernel_rfl
theorem f8 : Try.prog.stopKnobs = [] := by kernel_rfl
theorem k1 : Try.prog.plainKeys = true := by kernel_rfl
theorem k2 : Try.prog.stopsHeard = true := by kernel_rfl
theorem k6 : Try.prog.laysLater = false := by kernel_rfl
theorem k7 : Try.prog.bearsReflect = false := by kernel_rfl
theorem k8 : Try.prog.doorFits [] = true := by kernel_rfl
theorem k3 : Try.prog.mayEnter = true := hd.enter hs1 hs2 k6 k7 k8
theorem k4 : Try.prog.liftsFinal = false := hd.lifts hs1 hs2
theorem k5 : Try.prog.make = some .cut := hd.make hs1 hs2
theorem closed : joinedFacts Try.prog 9 Try.f9 Rows.fnExactDecodeValuesSpec Rows.fnExactDecodeValuesRow = true := by
  rw [joinedFacts, f1, f2, f3, f4, f5, f6, f7, f8, k1, k2, k3, k4, k5]
  kernel_rfl
theorem named : Try.pinned.checked.prog.funcNamed "loop.example/cuttingplanes/laws.FnExactDecodeValues" = some 9 := by kernel_rfl
theorem inst : Try.f9.isInstance Try.prog Rows.fnExactDecodeValuesRow.origin Rows.fnExactDecodeValuesRow.targs := of_decide_eq_true (by kernel_rfl)
theorem wrapper : Try.f9.isWrapper Try.prog Rows.fnExactDecodeValuesRow.wrapper Rows.fnExactDecodeValuesRow.mainSum := by unfold Func.isWrapper; rw [if_neg (by decide +kernel)]; exact ⟨rfl, rfl⟩
theorem fnExactDecodeValues_holds : Rows.FnExactDecodeValuesSaid :=
  OpenClaim.holds_of_wide 9 Try.f9 rfl rfl rfl rfl rfl rfl rfl ⟨rfl, rfl, rfl, rfl, rfl⟩ rfl rfl rfl rfl rfl named Try.func9 closed inst wrapper
    (fun os started H enc _ => lifted os started H enc)
#print axioms fnExactDecodeValues_holds
end Go.Proofs.Yteojddfaiomfmaa

/- The law FnExactEncodeModel answers true at every input, and its arguments read afterwards as before. There is no condition. -/
import Derived.Test.YtbjllamkfmejlaaGreatW3
import Derived.Test.YtbjllamkfmejlaaGreatG9
import Derived.Test.YtbjllamkfmejlaaGreatG10
import Derived.Test.YtbjllamkfmejlaaGreatKZ
import Derived.Test.YtbjllamkfmejlaaGreatChecked
import Derived.Test.YtbjllamkfmejlaaGreatRows
namespace Go.Proofs.YtbjllamkfmejlaaGreat
open Go Go.E Go.L Go.RowKit Go.ChangeShapes Go.WideShapes Go.ChangeAt
set_option linter.unusedVariables false
theorem own : ownKnob Tryz.prog.godebug = none := by kernel_rfl
theorem opn_3 : Opn Tryz.prog 3 RP.int InI64 := opn_int Tryz.underlying3 (by kernel_rfl)
theorem opn_23 : Opn Tryz.prog 23 (RP.slice 3 RP.int) gInts := opn_ints Tryz.underlying23 (by kernel_rfl) opn_3
theorem opn_77 : Opn Tryz.prog 77 (RP.slice 23 (RP.slice 3 RP.int)) gIntss := opn_intss Tryz.underlying77 (by kernel_rfl) opn_23
theorem opn_140 : Opn Tryz.prog 140 (rRule 3 23) gRule := opn_rule Tryz.underlying140 rfl (by kernel_rfl) opn_3 opn_23 opn_23 opn_3 opn_77 rfl rfl rfl rfl rfl
theorem opn_59 : Opn Tryz.prog 59 (RP.slice 140 (rRule 3 23)) gRules := opn_rules Tryz.underlying59 (by kernel_rfl) opn_140
theorem opn_61 : Opn Tryz.prog 61 (rModel 3 23 140) gModel := opn_model Tryz.underlying61 rfl (by kernel_rfl) opn_23 opn_59 rfl rfl
set_option maxRecDepth 100000 in
theorem lifted (os : Os) (started : os.Started) (H : Type) (enc : TypeId × Value → H) :
    ReturnsInHanded {} Tryz.checked os 11 .any (Rows.fnExactEncodeModelSpec.pre6 enc Tryz.prog Tryz.f11 Rows.fnExactEncodeModelRow.domain false) (Rows.fnExactEncodeModelSpec.post enc Tryz.prog Tryz.f11 false true false false) := by
  refine returnsInHanded_of_change (C := Tryz.checked) own started (by kernel_rfl) Tryz.func11
    (ChangeSpec.witness6 (enc := enc) (C := Tryz.checked) false ⟨#[], #[.agg #[.slice none 0 0, .slice none 0 0]], []⟩ 8 (by kernel_rfl) (by kernel_rfl) (by kernel_rfl) (by kernel_rfl)) ?_
  intro W base args ds gs before hval0 hW hcnd _
  have hval : ∀ (j : Nat) t v, Tryz.f11.params[j]? = some t → args[j]? = some v → Value.okWide Tryz.prog W .any base t v := hval0
  have hW1 : DataW.Whole enc Tryz.prog Tryz.f11.params.toList Rows.fnExactEncodeModelSpec.vars false W args.toList ds gs before := hW
  have hW2 := hW1
  obtain ⟨p, q, hA0, hV, rfl, hfz, hnd⟩ := hW2
  have hA : DataW.TrodAll enc Tryz.prog W 0 (fun _ => true) true Tryz.f11.params.toList args.toList ds p := hA0
  rw [Tryz.params11] at hA hval
  obtain ⟨v0, vs0, d0, ds0, p0, q0, hargs, rfl, rfl, h0, r0⟩ := trodAll_cons hA
  obtain ⟨rfl, rfl, rfl⟩ := trodAll_nil r0
  obtain rfl : args = #[v0] := args_of hargs
  obtain ⟨rfl, rfl⟩ := trodVars_none hV
  obtain ⟨cs0, a0, rfl, e0, g0⟩ := opn_struct_arg opn_61 Tryz.underlying61 (hval 0 61 v0 rfl rfl) h0
  obtain ⟨m0_0, m0_1, rfl, hm0_0, hm0_1⟩ := rModel_iff.1 e0
  obtain ⟨fu, hF⟩ := FnExactEncodeModel_ok a0 g0
  refine Calls.mono (l_FnExactEncodeModel_c (Star.of_sub (sub_full W)) hm0_0 hm0_1 hF) ?_
  rintro _ W' ⟨_, rfl, rfl, hst⟩
  have hb := below_full hst.sub
  exact ⟨_, rfl, post_true (by kernel_rfl) (by kernel_rfl) hW1 rfl rfl rfl rfl rfl Tryz.underlying4 hb⟩

def headRest : List Char := List.map Char.ofNat [97, 116, 32, 108, 111, 111, 112, 46, 101, 120, 97, 109, 112, 108, 101, 47, 99, 117, 116, 116, 105, 110, 103, 112, 108, 97, 110, 101, 115, 47, 108, 97, 119, 115, 46, 70, 110, 69, 110, 99, 111, 100, 101, 70, 105, 108, 116, 101, 114, 32, 108, 111, 111, 112, 46, 101, 120, 97, 109, 112, 108, 101, 47, 99, 117, 116, 116, 105, 110, 103, 112, 108, 97, 110, 101, 115, 47, 108, 97, 119, 115, 46, 70, 110, 69, 110, 99, 111, 100, 101, 83, 101, 97, 114, 99, 104, 32, 108, 111, 111, 112, 46, 101, 120, 97, 109, 112, 108, 101, 47, 99, 117, 116, 116, 105, 110, 103, 112, 108, 97, 110, 101, 115, 47, 108, 97, 119, 115, 46, 70, 110, 69, 110, 99, 111, 100, 101, 83, 111, 108, 118, 101, 115, 32, 108, 111, 111, 112, 46, 101, 120, 97, 109, 112, 108, 101, 47, 99, 117, 116, 116, 105, 110, 103, 112, 108, 97, 110, 101, 115, 47, 108, 97, 119, 115, 46, 70, 110, 69, 110, 99, 111, 100, 101, 82, 117, 108, 101, 32, 108, 111, 111, 112, 46, 101, 120, 97, 109, 112, 108, 101, 47, 99, 117, 116, 116, 105, 110, 103, 112, 108, 97, 110, 101, 115, 47, 108, 97, 119, 115, 46, 70, 110, 68, 101, 99, 111, 100, 101, 83, 111, 108, 118, 101, 115, 32, 108, 111, 111, 112, 46, 101, 120, 97, 109, 112, 108, 101, 47, 99, 117, 116, 116, 105, 110, 103, 112, 108, 97, 110, 101, 115, 47, 108, 97, 119, 115, 46, 70, 110, 69, 110, 99, 111, 100, 101, 67, 111, 117, 110, 116, 32, 108, 111, 111, 112, 46, 101, 120, 97, 109, 112, 108, 101, 47, 99, 117, 116, 116, 105, 110, 103, 112, 108, 97, 110, 101, 115, 47, 108, 97, 119, 115, 46, 70, 110, 69, 110, 99, 111, 100, 101, 77, 111, 100, 101, 108, 32, 108, 111, 111, 112, 46, 101, 120, 97, 109, 112, 108, 101, 47, 99, 117, 116, 116, 105, 110, 103, 112, 108, 97, 110, 101, 115, 47, 108, 97, 119, 115, 46, 70, 110, 69, 120, 97, 99, 116, 69, 110, 99, 111, 100, 101, 82, 117, 108, 101, 32, 108, 111, 111, 112, 46, 101, 120, 97, 109, 112, 108, 101, 47, 99, 117, 116, 116, 105, 110, 103, 112, 108, 97, 110, 101, 115, 47, 108, 97, 119, 115, 46, 70, 110, 69, 120, 97, 99, 116, 69, 110, 99, 111, 100, 101, 77, 111, 100, 101, 108]
def headSum : List Char := List.map Char.ofNat [101, 48, 48, 55, 101, 50, 97, 48, 48, 51, 97, 57, 97, 49, 99, 50, 48, 97, 53, 100, 102, 50, 52, 50, 49, 102, 49, 57, 102, 100, 53, 98, 101, 102, 56, 54, 101, 57, 51, 55, 98, 55, 56, 50, 56, 52, 54, 54, 98, 102, 54, 51, 50, 55, 98, 102, 48, 99, 98, 51, 100, 57, 48, 98]
theorem hd0 : Tryz.prog.initOrder = String.ofList ("harness".toList ++ Char.ofNat 32 :: (headSum ++ Char.ofNat 32 :: ( "cut".toList ++ Char.ofNat 32 :: headRest))) := by kernel_rfl
theorem hd : HeadIs Tryz.prog headSum headRest := by unfold HeadIs; rw [hd0, String.toList_ofList]
theorem hs1 : isSumSigns headSum = true := by kernel_rfl
theorem hs2 : headSum.all (fun c => c != Char.ofNat 32) = true := by kernel_rfl
theorem f1 : laidOutB Tryz.prog = true := by kernel_rfl
theorem f2 : mapsRowed Tryz.prog = true := by kernel_rfl
theorem f3 : Tryz.prog.inPlace 11 = [] := by kernel_rfl
theorem f4 : Tryz.prog.unfollowed 11 = true := by kernel_rfl
theorem f5 : Tryz.prog.recurses 11 = true := by kernel_rfl
theorem f6 : Tryz.prog.varsNamed 11 = [] := by kernel_rfl
theorem f7 : Tryz.prog.stops = [] := by kernel_rfl
theorem f8 : Tryz.prog.stopKnobs = [] := by kernel_rfl
theorem k1 : Tryz.prog.plainKeys = true := by kernel_rfl
theorem k2 : Tryz.prog.stopsHeard = true := by kernel_rfl
theorem k6 : Tryz.prog.laysLater = false := by kernel_rfl
theorem k7 : Tryz.prog.bearsReflect = false := by kernel_rfl
theorem k8 : Tryz.prog.doorFits [] = true := by kernel_rfl
theorem k3 : Tryz.prog.mayEnter = true := hd.enter hs1 hs2 k6 k7 k8
theorem k4 : Tryz.prog.liftsFinal = false := hd.lifts hs1 hs2
theorem k5 : Tryz.prog.make = some .cut := hd.make hs1 hs2
theorem closed : joinedFacts Tryz.prog 11 Tryz.f11 Rows.fnExactEncodeModelSpec Rows.fnExactEncodeModelRow = true := by
  rw [joinedFacts, f1, f2, f3, f4, f5, f6, f7, f8, k1, k2, k3, k4, k5]
  kernel_rfl
theorem named : Tryz.pinned.checked.prog.funcNamed "loop.example/cuttingplanes/laws.FnExactEncodeModel" = some 11 := by kernel_rfl
theorem inst : Tryz.f11.isInstance Tryz.prog Rows.fnExactEncodeModelRow.origin Rows.fnExactEncodeModelRow.targs := of_decide_eq_true (by kernel_rfl)
theorem wrapper : Tryz.f11.isWrapper Tryz.prog Rows.fnExactEncodeModelRow.wrapper Rows.fnExactEncodeModelRow.mainSum := by unfold Func.isWrapper; rw [if_neg (by decide +kernel)]; exact ⟨rfl, rfl⟩
theorem fnExactEncodeModel_holds : Rows.FnExactEncodeModelSaid :=
  OpenClaim.holds_of_wide 11 Tryz.f11 rfl rfl rfl rfl rfl rfl rfl ⟨rfl, rfl, rfl, rfl, rfl⟩ rfl rfl rfl rfl rfl named Tryz.func11 closed inst wrapper
    (fun os started H enc _ => lifted os started H enc)
#print axioms fnExactEncodeModel_holds
end Go.Proofs.YtbjllamkfmejlaaGreat

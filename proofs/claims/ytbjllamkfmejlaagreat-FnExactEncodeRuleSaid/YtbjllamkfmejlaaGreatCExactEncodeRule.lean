/- The law FnExactEncodeRule answers true at every input, and its arguments read afterwards as before. There is no condition. -/
import Derived.Test.YtbjllamkfmejlaaGreatW3
import Derived.Test.YtbjllamkfmejlaaGreatG9
import Derived.Test.YtbjllamkfmejlaaGreatG10
import Derived.Test.YtbjllamkfmejlaaGreatKZ
import Derived.Test.YtbjllamkfmejlaaGreatChecked
import Derived.Test.YtbjllamkfmejlaaGreatRows
namespace Go.Proofs.YtbjllamkfmejlaaGreat
open Go Go.E Go.L Go.RowKit Go.ChangeShapes Go.WideShapes Go.ChangeAt
set_option linter.unusedVariables false
theorem own : ownKnob Tryz.prog.godebug = none := by kernel_rfl
theorem opn_3 : Opn Tryz.prog 3 RP.int InI64 := opn_int Tryz.underlying3 (by kernel_rfl)
theorem opn_23 : Opn Tryz.prog 23 (RP.slice 3 RP.int) gInts := opn_ints Tryz.underlying23 (by kernel_rfl) opn_3
theorem opn_77 : Opn Tryz.prog 77 (RP.slice 23 (RP.slice 3 RP.int)) gIntss := opn_intss Tryz.underlying77 (by kernel_rfl) opn_23
theorem opn_140 : Opn Tryz.prog 140 (rRule 3 23) gRule := opn_rule Tryz.underlying140 rfl (by kernel_rfl) opn_3 opn_23 opn_23 opn_3 opn_77 rfl rfl rfl rfl rfl
theorem opn_59 : Opn Tryz.prog 59 (RP.slice 140 (rRule 3 23)) gRules := opn_rules Tryz.underlying59 (by kernel_rfl) opn_140
theorem opn_61 : Opn Tryz.prog 61 (rModel 3 23 140) gModel := opn_model Tryz.underlying61 rfl (by kernel_rfl) opn_23 opn_59 rfl rfl
set_option maxRecDepth 100000 in
theorem lifted (os : Os) (started : os.Started) (H : Type) (enc : TypeId × Value → H) :
    ReturnsInHanded {} Tryz.checked os 10 .any (Rows.fnExactEncodeRuleSpec.pre6 enc Tryz.prog Tryz.f10 Rows.fnExactEncodeRuleRow.domain false) (Rows.fnExactEncodeRuleSpec.post enc Tryz.prog Tryz.f10 false true false false) := by
  refine returnsInHanded_of_change (C := Tryz.checked) own started (by kernel_rfl) Tryz.func10
    (ChangeSpec.witness6 (enc := enc) (C := Tryz.checked) false ⟨#[], #[.agg #[.slice none 0 0, .slice none 0 0], .int .i64 0], []⟩ 8 (by kernel_rfl) (by kernel_rfl) (by kernel_rfl) (by kernel_rfl)) ?_
  intro W base args ds gs before hval0 hW hcnd _
  have hval : ∀ (j : Nat) t v, Tryz.f10.params[j]? = some t → args[j]? = some v → Value.okWide Tryz.prog W .any base t v := hval0
  have hW1 : DataW.Whole enc Tryz.prog Tryz.f10.params.toList Rows.fnExactEncodeRuleSpec.vars false W args.toList ds gs before := hW
  have hW2 := hW1
  obtain ⟨p, q, hA0, hV, rfl, hfz, hnd⟩ := hW2
  have hA : DataW.TrodAll enc Tryz.prog W 0 (fun _ => true) true Tryz.f10.params.toList args.toList ds p := hA0
  rw [Tryz.params10] at hA hval
  obtain ⟨v0, vs0, d0, ds0, p0, q0, hargs, rfl, rfl, h0, r0⟩ := trodAll_cons hA
  obtain ⟨v1, vs1, d1, ds1, p1, q1, rfl, rfl, rfl, h1, r1⟩ := trodAll_cons r0
  obtain ⟨rfl, rfl, rfl⟩ := trodAll_nil r1
  obtain rfl : args = #[v0, v1] := args_of hargs
  obtain ⟨rfl, rfl⟩ := trodVars_none hV
  obtain ⟨cs0, a0, rfl, e0, g0⟩ := opn_struct_arg opn_61 Tryz.underlying61 (hval 0 61 v0 rfl rfl) h0
  obtain ⟨m0_0, m0_1, rfl, hm0_0, hm0_1⟩ := rModel_iff.1 e0
  obtain ⟨a1, rfl, g1⟩ := opn_int_arg Tryz.underlying3 (hval 1 3 v1 rfl rfl) h1
  obtain ⟨fu, hF⟩ := FnExactEncodeRule_ok a0 a1 g0 g1
  refine Calls.mono (l_FnExactEncodeRule_c (Star.of_sub (sub_full W)) hm0_0 hm0_1 hF) ?_
  rintro _ W' ⟨_, rfl, rfl, hst⟩
  have hb := below_full hst.sub
  exact ⟨_, rfl, post_true (by kernel_rfl) (by kernel_rfl) hW1 rfl rfl rfl rfl rfl Tryz.underlying4 hb⟩

def headRest : List Char := List.map Char.ofNat [97, 116, 32, 108, 111, 111, 112, 46, 101, 120, 97, 109, 112, 108, 101, 47, 99, 117, 116, 116, 105, 110, 103, 112, 108, 97, 110, 101, 115, 47, 108, 97, 119, 115, 46, 70, 110, 69, 110, 99, 111, 100, 101, 70, 105, 108, 116, 101, 114, 32, 108, 111, 111, 112, 46, 101, 120, 97, 109, 112, 108, 101, 47, 99, 117, 116, 116, 105, 110, 103, 112, 108, 97, 110, 101, 115, 47, 108, 97, 119, 115, 46, 70, 110, 69, 110, 99, 111, 100, 101, 83, 101, 97, 114, 99, 104, 32, 108, 111, 111, 112, 46, 101, 120, 97, 109, 112, 108, 101, 47, 99, 117, 116, 116, 105, 110, 103, 112, 108, 97, 110, 101, 115, 47, 108, 97, 119, 115, 46, 70, 110, 69, 110, 99, 111, 100, 101, 83, 111, 108, 118, 101, 115, 32, 108, 111, 111, 112, 46, 101, 120, 97, 109, 112, 108, 101, 47, 99, 117, 116, 116, 105, 110, 103, 112, 108, 97, 110, 101, 115, 47, 108, 97, 119, 115, 46, 70, 110, 69, 110, 99, 111, 100, 101, 82, 117, 108, 101, 32, 108, 111, 111, 112, 46, 101, 120, 97, 109, 112, 108, 101, 47, 99, 117, 116, 116, 105, 110, 103, 112, 108, 97, 110, 101, 115, 47, 108, 97, 119, 115, 46, 70, 110, 68, 101, 99, 111, 100, 101, 83, 111, 108, 118, 101, 115, 32, 108, 111, 111, 112, 46, 101, 120, 97, 109, 112, 108, 101, 47, 99, 117, 116, 116, 105, 110, 103, 112, 108, 97, 110, 101, 115, 47, 108, 97, 119, 115, 46, 70, 110, 69, 110, 99, 111, 100, 101, 67, 111, 117, 110, 116, 32, 108, 111, 111, 112, 46, 101, 120, 97, 109, 112, 108, 101, 47, 99, 117, 116, 116, 105, 110, 103, 112, 108, 97, 110, 101, 115, 47, 108, 97, 119, 115, 46, 70, 110, 69, 110, 99, 111, 100, 101, 77, 111, 100, 101, 108, 32, 108, 111, 111, 112, 46, 101, 120, 97, 109, 112, 108, 101, 47, 99, 117, 116, 116, 105, 110, 103, 112, 108, 97, 110, 101, 115, 47, 108, 97, 119, 115, 46, 70, 110, 69, 120, 97, 99, 116, 69, 110, 99, 111, 100, 101, 82, 117, 108, 101, 32, 108, 111, 111, 112, 46, 101, 120, 97, 109, 112, 108, 101, 47, 99, 117, 116, 116, 105, 110, 103, 112, 108, 97, 110, 101, 115, 47, 108, 97, 119, 115, 46, 70, 110, 69, 120, 97, 99, 116, 69, 110, 99, 111, 100, 101, 77, 111, 100, 101, 108]
def headSum : List Char := List.map Char.ofNat [101, 48, 48, 55, 101, 50, 97, 48, 48, 51, 97, 57, 97, 49, 99, 50, 48, 97, 53, 100, 102, 50, 52, 50, 49, 102, 49, 57, 102, 100, 53, 98, 101, 102, 56, 54, 101, 57, 51, 55, 98, 55, 56, 50, 56, 52, 54, 54, 98, 102, 54, 51, 50, 55, 98, 102, 48, 99, 98, 51, 100, 57, 48, 98]
theorem hd0 : Tryz.prog.initOrder = String.ofList ("harness".toList ++ Char.ofNat 32 :: (headSum ++ Char.ofNat 32 :: ( "cut".toList ++ Char.ofNat 32 :: headRest))) := by kernel_rfl
theorem hd : HeadIs Tryz.prog headSum headRest := by unfold HeadIs; rw [hd0, String.toList_ofList]
theorem hs1 : isSumSigns headSum = true := by kernel_rfl
theorem hs2 : headSum.all (fun c => c != Char.ofNat 32) = true := by kernel_rfl
theorem f1 : laidOutB Tryz.prog = true := by kernel_rfl
theorem f2 : mapsRowed Tryz.prog = true := by kernel_rfl
theorem f3 : Tryz.prog.inPlace 10 = [] := by kernel_rfl
theorem f4 : Tryz.prog.unfollowed 10 = true := by kernel_rfl
theorem f5 : Tryz.prog.recurses 10 = true := by kernel_rfl
theorem f6 : Tryz.prog.varsNamed 10 = [] := by kernel_rfl
theorem f7 : Tryz.prog.stops = [] := by kernel_rfl
theorem f8 : Tryz.prog.stopKnobs = [] := by kernel_rfl
theorem k1 : Tryz.prog.plainKeys = true := by kernel_rfl
theorem k2 : Tryz.prog.stopsHeard = true := by kernel_rfl
theorem k6 : Tryz.prog.laysLater = false := by kernel_rfl
theorem k7 : Tryz.prog.bearsReflect = false := by kernel_rfl
theorem k8 : Tryz.prog.doorFits [] = true := by kernel_rfl
theorem k3 : Tryz.prog.mayEnter = true := hd.enter hs1 hs2 k6 k7 k8
theorem k4 : Tryz.prog.liftsFinal = false := hd.lifts hs1 hs2
theorem k5 : Tryz.prog.make = some .cut := hd.make hs1 hs2
theorem closed : joinedFacts Tryz.prog 10 Tryz.f10 Rows.fnExactEncodeRuleSpec Rows.fnExactEncodeRuleRow = true := by
  rw [joinedFacts, f1, f2, f3, f4, f5, f6, f7, f8, k1, k2, k3, k4, k5]
  kernel_rfl
theorem named : Tryz.pinned.checked.prog.funcNamed "loop.example/cuttingplanes/laws.FnExactEncodeRule" = some 10 := by kernel_rfl
theorem inst : Tryz.f10.isInstance Tryz.prog Rows.fnExactEncodeRuleRow.origin Rows.fnExactEncodeRuleRow.targs := of_decide_eq_true (by kernel_rfl)
theorem wrapper : Tryz.f10.isWrapper Tryz.prog Rows.fnExactEncodeRuleRow.wrapper Rows.fnExactEncodeRuleRow.mainSum := by unfold Func.isWrapper; rw [if_neg (by decide +kernel)]; exact ⟨rfl, rfl⟩
theorem fnExactEncodeRule_holds : Rows.FnExactEncodeRuleSaid :=
  OpenClaim.holds_of_wide 10 Tryz.f10 rfl rfl rfl rfl rfl rfl rfl ⟨rfl, rfl, rfl, rfl, rfl⟩ rfl rfl rfl rfl rfl named Tryz.func10 closed inst wrapper
    (fun os started H enc _ => lifted os started H enc)
#print axioms fnExactEncodeRule_holds
end Go.Proofs.YtbjllamkfmejlaaGreat

/- The law FnExactTrimProof answers true at every input, and its arguments read afterwards as before. There is no condition. -/
import Derived.Test.YtiodhgbfceahfaaGreatW4
import Derived.Test.YtiodhgbfceahfaaGreatG9
import Derived.Test.YtiodhgbfceahfaaGreatG10
import Derived.Test.YtiodhgbfceahfaaGreatK43
import Derived.Test.YtiodhgbfceahfaaGreatChecked
import Derived.Test.YtiodhgbfceahfaaGreatRows
namespace Go.Proofs.YtiodhgbfceahfaaGreat
open Go Go.E Go.L Go.RowKit Go.ChangeShapes Go.WideShapes Go.ChangeAt
set_option linter.unusedVariables false
theorem own : ownKnob Tryz.prog.godebug = none := by kernel_rfl
theorem opn_3 : Opn Tryz.prog 3 RP.int InI64 := opn_int Tryz.underlying3 (by kernel_rfl)
theorem opn_94 : Opn Tryz.prog 94 rTerm gTerm := opn_term Tryz.underlying94 rfl (by kernel_rfl) opn_3 opn_3 rfl rfl
theorem opn_38 : Opn Tryz.prog 38 (RP.slice 94 rTerm) gTerms := opn_terms Tryz.underlying38 (by kernel_rfl) opn_94
theorem opn_40 : Opn Tryz.prog 40 (rCon 94) gCon := opn_con Tryz.underlying40 rfl (by kernel_rfl) opn_38 opn_3 rfl rfl
theorem opn_22 : Opn Tryz.prog 22 (RP.slice 40 (rCon 94)) gCons := opn_cons Tryz.underlying22 (by kernel_rfl) opn_40
theorem opn_43 : Opn Tryz.prog 43 (rStep 94) gStep := opn_step Tryz.underlying43 rfl (by kernel_rfl) opn_3 opn_3 opn_3 opn_40 rfl rfl rfl rfl
theorem opn_23 : Opn Tryz.prog 23 (RP.slice 43 (rStep 94)) gSteps := opn_steps Tryz.underlying23 (by kernel_rfl) opn_43
set_option maxRecDepth 100000 in
theorem lifted (os : Os) (started : os.Started) (H : Type) (enc : TypeId × Value → H) :
    ReturnsInHanded {} Tryz.checked os 3 .any (Rows.fnExactTrimProofSpec.pre6 enc Tryz.prog Tryz.f3 Rows.fnExactTrimProofRow.domain false) (Rows.fnExactTrimProofSpec.post enc Tryz.prog Tryz.f3 false true false false) := by
  refine returnsInHanded_of_change (C := Tryz.checked) own started (by kernel_rfl) Tryz.func3
    (ChangeSpec.witness6 (enc := enc) (C := Tryz.checked) false ⟨#[], #[.slice none 0 0, .slice none 0 0], []⟩ 8 (by kernel_rfl) (by kernel_rfl) (by kernel_rfl) (by kernel_rfl)) ?_
  intro W base args ds gs before hval0 hW hcnd _
  have hval : ∀ (j : Nat) t v, Tryz.f3.params[j]? = some t → args[j]? = some v → Value.okWide Tryz.prog W .any base t v := hval0
  have hW1 : DataW.Whole enc Tryz.prog Tryz.f3.params.toList Rows.fnExactTrimProofSpec.vars false W args.toList ds gs before := hW
  have hW2 := hW1
  obtain ⟨p, q, hA0, hV, rfl, hfz, hnd⟩ := hW2
  have hA : DataW.TrodAll enc Tryz.prog W 0 (fun _ => true) true Tryz.f3.params.toList args.toList ds p := hA0
  rw [Tryz.params3] at hA hval
  obtain ⟨v0, vs0, d0, ds0, p0, q0, hargs, rfl, rfl, h0, r0⟩ := trodAll_cons hA
  obtain ⟨v1, vs1, d1, ds1, p1, q1, rfl, rfl, rfl, h1, r1⟩ := trodAll_cons r0
  obtain ⟨rfl, rfl, rfl⟩ := trodAll_nil r1
  obtain rfl : args = #[v0, v1] := args_of hargs
  obtain ⟨rfl, rfl⟩ := trodVars_none hV
  obtain ⟨a0, e0, g0⟩ := opn_slice_arg opn_22 Tryz.underlying22 (hval 0 22 v0 rfl rfl) h0
  obtain ⟨a1, e1, g1⟩ := opn_slice_arg opn_23 Tryz.underlying23 (hval 1 23 v1 rfl rfl) h1
  obtain ⟨fu, hF⟩ := FnExactTrimProof_ok a0 a1 g0 g1
  refine Calls.mono (l_FnExactTrimProof_c (Star.of_sub (sub_full W)) e0 e1 hF) ?_
  rintro _ W' ⟨_, rfl, rfl, hst⟩
  have hb := below_full hst.sub
  exact ⟨_, rfl, post_true (by kernel_rfl) (by kernel_rfl) hW1 rfl rfl rfl rfl rfl Tryz.underlying4 hb⟩

def headRest : List Char := List.map Char.ofNat [97, 116, 32, 108, 111, 111, 112, 46, 101, 120, 97, 109, 112, 108, 101, 47, 99, 117, 116, 116, 105, 110, 103, 112, 108, 97, 110, 101, 115, 47, 108, 97, 119, 115, 46, 70, 110, 69, 120, 97, 99, 116, 84, 114, 105, 109, 80, 114, 111, 111, 102]
def headSum : List Char := List.map Char.ofNat [50, 54, 54, 54, 49, 51, 98, 99, 99, 102, 99, 57, 48, 56, 52, 97, 50, 98, 52, 51, 50, 101, 100, 57, 97, 52, 102, 49, 101, 57, 52, 54, 53, 97, 99, 48, 102, 48, 48, 49, 97, 98, 50, 52, 56, 98, 54, 53, 101, 99, 54, 100, 51, 48, 101, 97, 56, 53, 99, 55, 49, 55, 53, 102]
theorem hd0 : Tryz.prog.initOrder = String.ofList ("harness".toList ++ Char.ofNat 32 :: (headSum ++ Char.ofNat 32 :: ( "cut".toList ++ Char.ofNat 32 :: headRest))) := by kernel_rfl
theorem hd : HeadIs Tryz.prog headSum headRest := by unfold HeadIs; rw [hd0, String.toList_ofList]
theorem hs1 : isSumSigns headSum = true := by kernel_rfl
theorem hs2 : headSum.all (fun c => c != Char.ofNat 32) = true := by kernel_rfl
theorem f1 : laidOutB Tryz.prog = true := by kernel_rfl
theorem f2 : mapsRowed Tryz.prog = true := by kernel_rfl
theorem f3 : Tryz.prog.inPlace 3 = [] := by kernel_rfl
theorem f4 : Tryz.prog.unfollowed 3 = true := by kernel_rfl
theorem f5 : Tryz.prog.recurses 3 = true := by kernel_rfl
theorem f6 : Tryz.prog.varsNamed 3 = [] := by kernel_rfl
theorem f7 : Tryz.prog.stops = [] := by kernel_rfl
theorem f8 : Tryz.prog.stopKnobs = [] := by kernel_rfl
theorem k1 : Tryz.prog.plainKeys = true := by kernel_rfl
theorem k2 : Tryz.prog.stopsHeard = true := by kernel_rfl
theorem k6 : Tryz.prog.laysLater = false := by kernel_rfl
theorem k7 : Tryz.prog.bearsReflect = false := by kernel_rfl
theorem k8 : Tryz.prog.doorFits [] = true := by kernel_rfl
theorem k3 : Tryz.prog.mayEnter = true := hd.enter hs1 hs2 k6 k7 k8
theorem k4 : Tryz.prog.liftsFinal = false := hd.lifts hs1 hs2
theorem k5 : Tryz.prog.make = some .cut := hd.make hs1 hs2
theorem closed : joinedFacts Tryz.prog 3 Tryz.f3 Rows.fnExactTrimProofSpec Rows.fnExactTrimProofRow = true := by
  rw [joinedFacts, f1, f2, f3, f4, f5, f6, f7, f8, k1, k2, k3, k4, k5]
  kernel_rfl
theorem named : Tryz.pinned.checked.prog.funcNamed "loop.example/cuttingplanes/laws.FnExactTrimProof" = some 3 := by kernel_rfl
theorem inst : Tryz.f3.isInstance Tryz.prog Rows.fnExactTrimProofRow.origin Rows.fnExactTrimProofRow.targs := of_decide_eq_true (by kernel_rfl)
theorem wrapper : Tryz.f3.isWrapper Tryz.prog Rows.fnExactTrimProofRow.wrapper Rows.fnExactTrimProofRow.mainSum := by unfold Func.isWrapper; rw [if_neg (by decide +kernel)]; exact ⟨rfl, rfl⟩
theorem fnExactTrimProof_holds : Rows.FnExactTrimProofSaid :=
  OpenClaim.holds_of_wide 3 Tryz.f3 rfl rfl rfl rfl rfl rfl rfl ⟨rfl, rfl, rfl, rfl, rfl⟩ rfl rfl rfl rfl rfl named Tryz.func3 closed inst wrapper
    (fun os started H enc _ => lifted os started H enc)
#print axioms fnExactTrimProof_holds
end Go.Proofs.YtiodhgbfceahfaaGreat

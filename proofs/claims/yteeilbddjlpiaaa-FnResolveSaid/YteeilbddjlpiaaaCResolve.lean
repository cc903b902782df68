/- The law FnResolve answers true at every input, and its arguments read afterwards as before. There is no condition. -/
import Derived.Test.YteeilbddjlpiaaaW1
import Derived.Test.YteeilbddjlpiaaaG9
import Derived.Test.YteeilbddjlpiaaaG10
import Derived.Test.YteeilbddjlpiaaaKZ
import Derived.Test.YteeilbddjlpiaaaChecked
import Derived.Test.YteeilbddjlpiaaaRows
namespace Go.Proofs.Yteeilbddjlpiaaa
open Go Go.E Go.L Go.RowKit Go.ChangeShapes Go.WideShapes Go.ChangeAt
set_option linter.unusedVariables false
theorem own : ownKnob Try.prog.godebug = none := by kernel_rfl
theorem opn_5 : Opn Try.prog 5 RP.u8 (fun _ => True) := opn_u8 Try.underlying5 (by kernel_rfl)
theorem opn_22 : Opn Try.prog 22 (RP.slice 5 RP.u8) (fun xs => xs.length ≤ 9223372036854775807 ∧ ∀ x ∈ xs, True) := opn_bytes Try.underlying22 (by kernel_rfl) opn_5
set_option maxRecDepth 100000 in
theorem lifted (os : Os) (started : os.Started) (H : Type) (enc : TypeId × Value → H) :
    ReturnsInHanded {} Try.checked os 11 .any (Rows.fnResolveSpec.pre6 enc Try.prog Try.f11 Rows.fnResolveRow.domain false) (Rows.fnResolveSpec.post enc Try.prog Try.f11 false true false false) := by
  refine returnsInHanded_of_change (C := Try.checked) own started (by kernel_rfl) Try.func11
    (ChangeSpec.witness6 (enc := enc) (C := Try.checked) false ⟨#[], #[.slice none 0 0], []⟩ 8 (by kernel_rfl) (by kernel_rfl) (by kernel_rfl) (by kernel_rfl)) ?_
  intro W base args ds gs before hval0 hW hcnd _
  have hval : ∀ (j : Nat) t v, Try.f11.params[j]? = some t → args[j]? = some v → Value.okWide Try.prog W .any base t v := hval0
  have hW1 : DataW.Whole enc Try.prog Try.f11.params.toList Rows.fnResolveSpec.vars false W args.toList ds gs before := hW
  have hW2 := hW1
  obtain ⟨p, q, hA0, hV, rfl, hfz, hnd⟩ := hW2
  have hA : DataW.TrodAll enc Try.prog W 0 (fun _ => true) true Try.f11.params.toList args.toList ds p := hA0
  rw [Try.params11] at hA hval
  obtain ⟨v0, vs0, d0, ds0, p0, q0, hargs, rfl, rfl, h0, r0⟩ := trodAll_cons hA
  obtain ⟨rfl, rfl, rfl⟩ := trodAll_nil r0
  obtain rfl : args = #[v0] := args_of hargs
  obtain ⟨rfl, rfl⟩ := trodVars_none hV
  obtain ⟨a0, e0, g0⟩ := opn_slice_arg opn_22 Try.underlying22 (hval 0 22 v0 rfl rfl) h0
  obtain ⟨fu, hF⟩ := FnResolve_ok a0 g0
  refine Calls.mono (l_FnResolve_c (Star.of_sub (sub_full W)) e0 hF) ?_
  rintro _ W' ⟨_, rfl, rfl, hst⟩
  have hb := below_full hst.sub
  exact ⟨_, rfl, post_true (by kernel_rfl) (by kernel_rfl) hW1 rfl rfl rfl rfl rfl Try.underlying4 hb⟩

def headRest : List Char := List.map Char.ofNat [97, 116, 32, 108, 111, 111, 112, 46, 101, 120, 97, 109, 112, 108, 101, 47, 99, 117, 116, 116, 105, 110, 103, 112, 108, 97, 110, 101, 115, 47, 108, 97, 119, 115, 46, 70, 110, 78, 101, 120, 116, 76, 97, 115, 116, 32, 108, 111, 111, 112, 46, 101, 120, 97, 109, 112, 108, 101, 47, 99, 117, 116, 116, 105, 110, 103, 112, 108, 97, 110, 101, 115, 47, 108, 97, 119, 115, 46, 70, 110, 83, 111, 108, 118, 101, 70, 117, 101, 108, 32, 108, 111, 111, 112, 46, 101, 120, 97, 109, 112, 108, 101, 47, 99, 117, 116, 116, 105, 110, 103, 112, 108, 97, 110, 101, 115, 47, 108, 97, 119, 115, 46, 70, 110, 83, 111, 108, 118, 101, 70, 105, 114, 115, 116, 32, 108, 111, 111, 112, 46, 101, 120, 97, 109, 112, 108, 101, 47, 99, 117, 116, 116, 105, 110, 103, 112, 108, 97, 110, 101, 115, 47, 108, 97, 119, 115, 46, 70, 110, 83, 111, 108, 118, 101, 67, 111, 117, 110, 116, 32, 108, 111, 111, 112, 46, 101, 120, 97, 109, 112, 108, 101, 47, 99, 117, 116, 116, 105, 110, 103, 112, 108, 97, 110, 101, 115, 47, 108, 97, 119, 115, 46, 70, 110, 80, 114, 111, 118, 101, 83, 101, 108, 102, 32, 108, 111, 111, 112, 46, 101, 120, 97, 109, 112, 108, 101, 47, 99, 117, 116, 116, 105, 110, 103, 112, 108, 97, 110, 101, 115, 47, 108, 97, 119, 115, 46, 70, 110, 69, 120, 97, 99, 116, 83, 111, 108, 118, 101, 80, 114, 111, 98, 108, 101, 109, 32, 108, 111, 111, 112, 46, 101, 120, 97, 109, 112, 108, 101, 47, 99, 117, 116, 116, 105, 110, 103, 112, 108, 97, 110, 101, 115, 47, 108, 97, 119, 115, 46, 70, 110, 80, 114, 111, 118, 101, 67, 111, 110, 115, 116, 114, 97, 105, 110, 116, 32, 108, 111, 111, 112, 46, 101, 120, 97, 109, 112, 108, 101, 47, 99, 117, 116, 116, 105, 110, 103, 112, 108, 97, 110, 101, 115, 47, 108, 97, 119, 115, 46, 70, 110, 69, 120, 97, 99, 116, 80, 114, 111, 118, 101, 67, 111, 110, 115, 116, 114, 97, 105, 110, 116, 32, 108, 111, 111, 112, 46, 101, 120, 97, 109, 112, 108, 101, 47, 99, 117, 116, 116, 105, 110, 103, 112, 108, 97, 110, 101, 115, 47, 108, 97, 119, 115, 46, 70, 110, 82, 101, 115, 111, 108, 118, 101, 32, 108, 111, 111, 112, 46, 101, 120, 97, 109, 112, 108, 101, 47, 99, 117, 116, 116, 105, 110, 103, 112, 108, 97, 110, 101, 115, 47, 108, 97, 119, 115, 46, 70, 110, 67, 108, 97, 117, 115, 101, 79, 102]
def headSum : List Char := List.map Char.ofNat [100, 57, 97, 55, 52, 53, 53, 56, 55, 48, 56, 49, 102, 48, 54, 100, 57, 102, 99, 100, 54, 54, 51, 102, 99, 100, 99, 53, 52, 49, 98, 102, 49, 101, 100, 48, 101, 101, 55, 56, 97, 49, 97, 102, 56, 97, 50, 53, 102, 101, 49, 48, 57, 101, 55, 53, 100, 53, 49, 98, 48, 98, 102, 102]
theorem hd0 : Try.prog.initOrder = String.ofList ("harness".toList ++ Char.ofNat 32 :: (headSum ++ Char.ofNat 32 :: ( "cut".toList ++ Char.ofNat 32 :: headRest))) := by kernel_rfl
theorem hd : HeadIs Try.prog headSum headRest := by unfold HeadIs; rw [hd0, String.toList_ofList]
theorem hs1 : isSumSigns headSum = true := by kernel_rfl
theorem hs2 : headSum.all (fun c => c != Char.ofNat 32) = true := by kernel_rfl
theorem f1 : laidOutB Try.prog = true := by kernel_rfl
theorem f2 : mapsRowed Try.prog = true := by kernel_rfl
theorem f3 : Try.prog.inPlace 11 = [] := by kernel_rfl
theorem f4 : Try.prog.unfollowed 11 = true := by kernel_rfl
theorem f5 : Try.prog.recurses 11 = true := by kernel_rfl
theorem f6 : Try.prog.varsNamed 11 = [] := by kernel_rfl
theorem f7 : Try.prog.stops = [] := by kernel_rfl
theorem f8 : Try.prog.stopKnobs = [] := by kernel_rfl
theorem k1 : Try.prog.plainKeys = true := by kernel_rfl
theorem k2 : Try.prog.stopsHeard = true := by kernel_rfl
theorem k6 : Try.prog.laysLater = false := by kernel_rfl
theorem k7 : Try.prog.bearsReflect = false := by kernel_rfl
theorem k8 : Try.prog.doorFits [] = true := by kernel_rfl
theorem k3 : Try.prog.mayEnter = true := hd.enter hs1 hs2 k6 k7 k8
theorem k4 : Try.prog.liftsFinal = false := hd.lifts hs1 hs2
theorem k5 : Try.prog.make = some .cut := hd.make hs1 hs2
theorem closed : joinedFacts Try.prog 11 Try.f11 Rows.fnResolveSpec Rows.fnResolveRow = true := by
  rw [joinedFacts, f1, f2, f3, f4, f5, f6, f7, f8, k1, k2, k3, k4, k5]
  kernel_rfl
theorem named : Try.pinned.checked.prog.funcNamed "loop.example/cuttingplanes/laws.FnResolve" = some 11 := by kernel_rfl
theorem inst : Try.f11.isInstance Try.prog Rows.fnResolveRow.origin Rows.fnResolveRow.targs := of_decide_eq_true (by kernel_rfl)
theorem wrapper : Try.f11.isWrapper Try.prog Rows.fnResolveRow.wrapper Rows.fnResolveRow.mainSum := by unfold Func.isWrapper; rw [if_neg (by decide +kernel)]; exact ⟨rfl, rfl⟩
theorem fnResolve_holds : Rows.FnResolveSaid :=
  OpenClaim.holds_of_wide 11 Try.f11 rfl rfl rfl rfl rfl rfl rfl ⟨rfl, rfl, rfl, rfl, rfl⟩ rfl rfl rfl rfl rfl named Try.func11 closed inst wrapper
    (fun os started H enc _ => lifted os started H enc)
#print axioms fnResolve_holds
end Go.Proofs.Yteeilbddjlpiaaa

/- The law FnModelSame answers true at every input, and its arguments read afterwards as before. The listed variables of the library hold what its text lays; there is no other condition. -/
import Derived.Test.YtohpkefnmkdaeaaDoorW2
import Derived.Test.YtohpkefnmkdaeaaDoorG16
import Derived.Test.YtohpkefnmkdaeaaDoorKZ
import Derived.Test.YtohpkefnmkdaeaaDoorChecked
import Derived.Test.YtohpkefnmkdaeaaDoorRows
import Derived.Test.YtohpkefnmkdaeaaDoorCards
import Derived.Test.YtohpkefnmkdaeaaDoorTie
namespace Go.Proofs.YtohpkefnmkdaeaaDoor
open Go Go.E Go.L Go.RowKit Go.ChangeShapes Go.WideShapes Go.ChangeAt
set_option linter.unusedVariables false
set_option maxRecDepth 100000
theorem own : ownKnob Tryd.prog.godebug = none := by kernel_rfl
theorem opn_5 : Opn Tryd.prog 5 RP.u8 (fun _ => True) := opn_u8 Tryd.underlying5 (by kernel_rfl)
theorem opn_22 : Opn Tryd.prog 22 (RP.slice 5 RP.u8) (fun xs => xs.length ≤ 9223372036854775807 ∧ ∀ x ∈ xs, True) := opn_bytes Tryd.underlying22 (by kernel_rfl) opn_5
theorem gN0 : Tryd.prog.globalNamed "internal/strconv.uint64pow10" = some 0 := by kernel_rfl
theorem glob_of {W : World} (h : laidMetH Tryd.prog Rows.fnModelSameRow.laid W) (hs : W.ShapedOpen Tryd.prog) : GlobW W := by
  rw [MakeChecks.laidMetH_plain _ _ _ (by kernel_rfl)] at h
  have h : laidMet Tryd.prog [("math/bits.deBruijn32tab", Rows.laid_math_bits_deBruijn32tab), ("math/bits.deBruijn64tab", Rows.laid_math_bits_deBruijn64tab), ("internal/strconv.uint64pow10", Rows.laid_internal_strconv_uint64pow10)] W := h
  have e1 : (Rows.laid_internal_strconv_uint64pow10 : DataW Unit) = Go.Lib.tabData .u64 Go.Lib.pow10Tab := by kernel_rfl
  rw [e1] at h
  exact ⟨Go.Lib.tabIs_of_head gN0 (by kernel_rfl) Tryd.underlying144 Tryd.underlying138 (by kernel_rfl) (by kernel_rfl) (h.tail.tail)⟩
noncomputable def laidWorld (os : Os) : World := World.doorLaid Tryd.prog 24 os
theorem world_met (os : Os) (args : Array Value) : laidMetH Tryd.prog Rows.fnModelSameRow.laid ((laidWorld os).forCall (fun _ _ => 0) ⟨#[], args, []⟩).memory :=
  laidMetH_of_parts3 (fuel := 8) (laidMet_of_run' 8 (by kernel_rfl) (by kernel_rfl)) (by kernel_rfl) (by kernel_rfl)
theorem lifted (os : Os) (started : os.Started) (H : Type) (enc : TypeId × Value → H) :
    ReturnsInHanded {} Tryd.checked os 3 .any (fun w args => (Rows.fnModelSameSpec.pre enc Tryd.prog Tryd.f3 [] false w args ∧ laidMetH Tryd.prog Rows.fnModelSameRow.laid w) ∧ sizedMet enc Tryd.prog Tryd.f3 (OpenSpec.ofChange Rows.fnModelSameSpec) false w args)
      (Rows.fnModelSameSpec.post enc Tryd.prog Tryd.f3 false true false false) := by
  refine returns_laid (C := Tryd.checked) own started (by kernel_rfl) Tryd.func3
    (ChangeSpec.witness_shaped (enc := enc) (C := Tryd.checked) (os := os) (X := fun w _ => laidMetH Tryd.prog Rows.fnModelSameRow.laid w) false (laidWorld os) #[.slice none 0 0] 8 rfl (World.shaped_of_RefB (by kernel_rfl) (by kernel_rfl)) (by kernel_rfl) (by kernel_rfl) (by kernel_rfl) (world_met os _)) ?_
  intro W base args ds gs before hval0 hW hL hS
  have gw := glob_of hL hS
  have hval : ∀ (j : Nat) t v, Tryd.f3.params[j]? = some t → args[j]? = some v → Value.okWide Tryd.prog W .any base t v := hval0
  have hW1 : DataW.Whole enc Tryd.prog Tryd.f3.params.toList Rows.fnModelSameSpec.vars false W args.toList ds gs before := hW
  have hW2 := hW1
  obtain ⟨p, q, hA0, hV, rfl, hfz, hnd⟩ := hW2
  have hA : DataW.TrodAll enc Tryd.prog W 0 (fun _ => true) true Tryd.f3.params.toList args.toList ds p := hA0
  rw [Tryd.params3] at hA hval
  obtain ⟨v0, vs0, d0, ds0, p0, q0, hargs, rfl, rfl, h0, r0⟩ := trodAll_cons hA
  obtain ⟨rfl, rfl, rfl⟩ := trodAll_nil r0
  obtain rfl : args = #[v0] := args_of hargs
  obtain ⟨rfl, rfl⟩ := trodVars_none hV
  obtain ⟨a0, e0, g0⟩ := opn_slice_arg gw opn_22 Tryd.underlying22 (hval 0 22 v0 rfl rfl) h0
  obtain ⟨fu, hF⟩ := FnModelSame_ok a0 g0
  refine Calls.mono (l_FnModelSame_c (Star.of_sub (sub_full W gw)) e0 hF) ?_
  rintro _ W' ⟨_, rfl, rfl, hst⟩
  have hb := below_full hst.sub
  exact ⟨_, rfl, post_true (by kernel_rfl) (by kernel_rfl) hW1 rfl rfl rfl rfl rfl Tryd.underlying4 hb⟩
def headRest : List Char := List.map Char.ofNat [97, 116, 32, 108, 111, 111, 112, 46, 101, 120, 97, 109, 112, 108, 101, 47, 99, 117, 116, 116, 105, 110, 103, 112, 108, 97, 110, 101, 115, 47, 108, 97, 119, 115, 46, 70, 110, 77, 111, 100, 101, 108, 83, 97, 109, 101, 32, 108, 111, 111, 112, 46, 101, 120, 97, 109, 112, 108, 101, 47, 99, 117, 116, 116, 105, 110, 103, 112, 108, 97, 110, 101, 115, 47, 108, 97, 119, 115, 46, 70, 110, 69, 120, 97, 99, 116, 70, 111, 114, 109, 97, 116, 77, 111, 100, 101, 108, 32, 108, 111, 111, 112, 46, 101, 120, 97, 109, 112, 108, 101, 47, 99, 117, 116, 116, 105, 110, 103, 112, 108, 97, 110, 101, 115, 47, 108, 97, 119, 115, 46, 70, 110, 69, 120, 97, 99, 116, 70, 111, 114, 109, 97, 116, 80, 114, 111, 111, 102]
def headSum : List Char := List.map Char.ofNat [49, 100, 51, 102, 54, 53, 50, 97, 49, 48, 99, 98, 98, 97, 52, 54, 49, 102, 50, 98, 100, 52, 48, 51, 49, 100, 49, 102, 98, 53, 51, 100, 49, 56, 101, 98, 50, 48, 50, 49, 56, 101, 49, 55, 52, 97, 48, 57, 99, 53, 50, 51, 48, 57, 54, 51, 55, 97, 52, 50, 48, 54, 102, 56]
theorem hd0 : Tryd.prog.initOrder = String.ofList ("harness".toList ++ Char.ofNat 32 :: (headSum ++ Char.ofNat 32 :: ( "cut".toList ++ Char.ofNat 32 :: headRest))) := by kernel_rfl
theorem hd : HeadIs Tryd.prog headSum headRest := by unfold HeadIs; rw [hd0, String.toList_ofList]
theorem hs1 : isSumSigns headSum = true := by kernel_rfl
theorem hs2 : headSum.all (fun c => c != Char.ofNat 32) = true := by kernel_rfl
theorem f1 : laidOutB Tryd.prog = true := by kernel_rfl
theorem f2 : mapsRowed Tryd.prog = true := by kernel_rfl
theorem f3 : Tryd.prog.inPlace 3 = [] := by kernel_rfl
theorem f4 : Tryd.prog.unfollowed 3 = true := by kernel_rfl
theorem f5 : Tryd.prog.recurses 3 = true := by kernel_rfl
theorem f6 : Tryd.prog.varsNamed 3 = ["internal/strconv.uint64pow10", "math/bits.deBruijn32tab", "math/bits.deBruijn64tab"] := by kernel_rfl
theorem f7 : Tryd.prog.stops = [] := by kernel_rfl
theorem f8 : Tryd.prog.stopKnobs = [] := by kernel_rfl
theorem k1 : Tryd.prog.plainKeys = true := by kernel_rfl
theorem k2 : Tryd.prog.stopsHeard = true := by kernel_rfl
theorem k6 : Tryd.prog.laysLater = false := by kernel_rfl
theorem k7 : Tryd.prog.bearsReflect = false := by kernel_rfl
theorem k8 : Tryd.prog.doorFits [] = true := by kernel_rfl
theorem k3 : Tryd.prog.mayEnter = true := hd.enter hs1 hs2 k6 k7 k8
theorem k4 : Tryd.prog.liftsFinal = false := hd.lifts hs1 hs2
theorem k5 : Tryd.prog.make = some .cut := hd.make hs1 hs2
theorem closed : joinedFacts Tryd.prog 3 Tryd.f3 Rows.fnModelSameSpec Rows.fnModelSameRow = true := by
  rw [joinedFacts, f1, f2, f3, f4, f5, f6, f7, f8, k1, k2, k3, k4, k5]
  kernel_rfl
theorem fnamed : Tryd.pinned.checked.prog.funcNamed "loop.example/cuttingplanes/laws.FnModelSame" = some 3 := by kernel_rfl
theorem inst : Tryd.f3.isInstance Tryd.prog Rows.fnModelSameRow.origin Rows.fnModelSameRow.targs := of_decide_eq_true (by kernel_rfl)
theorem wrapper : Tryd.f3.isWrapper Tryd.prog Rows.fnModelSameRow.wrapper Rows.fnModelSameRow.mainSum := by unfold Func.isWrapper; rw [if_neg (by decide +kernel)]; exact ⟨rfl, rfl⟩
theorem row_holds : Rows.FnModelSameSaid :=
  OpenClaim.holds_of_wide 3 Tryd.f3 rfl rfl rfl rfl rfl rfl rfl ⟨rfl, rfl, rfl, rfl, rfl⟩ rfl rfl rfl rfl rfl fnamed Tryd.func3 closed inst wrapper
    (fun os started H enc _ => lifted os started H enc)
theorem no_stand (t : TypeId) (h : t ∈ Tryd.f3.params.toList) : Tryd.prog.wantsStandIn t = false := by
  rw [Tryd.params3] at h
  simp only [List.mem_cons, List.mem_nil_iff, or_false] at h
  subst h
  kernel_rfl
theorem fnModelSame_holds : Rows.FnModelSameCardSaid :=
  Claim7.holds_tied_plain_at .later [] [.data, .data, .data] true (true, "1d3f652a10cbba461f2bd4031d1fb53d18eb20218e174a09c52309637a4206f8") false row_holds (fun _ h => by cases h) (by kernel_rfl) (fun _ h => by cases h) fnModelSame_row_tie rfl ⟨rfl, rfl⟩ (by kernel_rfl) rfl
    (fun g fn hg hfn => by
      obtain rfl : g = 3 := Option.some.inj (hg.symm.trans fnamed)
      obtain rfl : fn = Tryd.f3 := (Option.some.inj (Tryd.func3.symm.trans hfn)).symm
      exact ⟨by kernel_rfl, fun j t ht => no_stand t (List.mem_of_getElem? (i := j) (by simpa using ht))⟩)
    (by kernel_rfl)
#print axioms fnModelSame_holds
end Go.Proofs.YtohpkefnmkdaeaaDoor

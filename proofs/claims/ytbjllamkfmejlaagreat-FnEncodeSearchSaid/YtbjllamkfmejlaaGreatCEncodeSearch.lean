/- The law FnEncodeSearch answers true at every input, and its arguments read afterwards as before. There is no condition. -/
import Derived.Test.YtbjllamkfmejlaaGreatW5
import Derived.Test.YtbjllamkfmejlaaGreatG9
import Derived.Test.YtbjllamkfmejlaaGreatG10
import Derived.Test.YtbjllamkfmejlaaGreatKZ
import Derived.Test.YtbjllamkfmejlaaGreatChecked
import Derived.Test.YtbjllamkfmejlaaGreatRows
namespace Go.Proofs.YtbjllamkfmejlaaGreat
open Go Go.E Go.L Go.RowKit Go.ChangeShapes Go.WideShapes Go.ChangeAt
set_option linter.unusedVariables false
theorem own : ownKnob Tryz.prog.godebug = none := by kernel_rfl
theorem Fm : Opn Tryz.prog 5 RP.u8 (fun _ => True) := Fa Tryz.underlying5 (by kernel_rfl)
theorem EY : Opn Tryz.prog 22 (RP.slice 5 RP.u8) (fun xs => xs.length ≤ 9223372036854775807 ∧ ∀ x ∈ xs, True) := Bm Tryz.underlying22 (by kernel_rfl) Fm
set_option maxRecDepth 100000 in
theorem lifted (os : Os) (started : os.Started) (H : Type) (enc : TypeId × Value → H) :
  ReturnsInHanded {} Tryz.checked os 4 .any (Rows.fnEncodeSearchSpec.pre6 enc Tryz.prog Tryz.f4 Rows.fnEncodeSearchRow.domain false) (Rows.fnEncodeSearchSpec.post enc Tryz.prog Tryz.f4 false true false false) := by
 refine returnsInHanded_of_change (C := Tryz.checked) own started (by kernel_rfl) Tryz.func4
  (ChangeSpec.witness6 (enc := enc) (C := Tryz.checked) false ⟨#[], #[.slice none 0 0], []⟩ 8 (by kernel_rfl) (by kernel_rfl) (by kernel_rfl) (by kernel_rfl)) ?_
 intro W base args ds gs before hval0 hW hcnd _
 have hval : ∀ (j : Nat) t v, Tryz.f4.params[j]? = some t → args[j]? = some v → Value.okWide Tryz.prog W .any base t v := hval0
 have hW1 : DataW.Whole enc Tryz.prog Tryz.f4.params.toList Rows.fnEncodeSearchSpec.vars false W args.toList ds gs before := hW
 have hW2 := hW1
 obtain ⟨p, q, hA0, hV, rfl, hfz, hnd⟩ := hW2
 have hA : DataW.TrodAll enc Tryz.prog W 0 (fun _ => true) true Tryz.f4.params.toList args.toList ds p := hA0
 rw [Tryz.params4] at hA hval
 obtain ⟨v0, vs0, d0, ds0, p0, q0, hargs, rfl, rfl, h0, r0⟩ := trodAll_cons hA
 obtain ⟨rfl, rfl, rfl⟩ := trodAll_nil r0
 obtain rfl : args = #[v0] := kZ hargs
 obtain ⟨rfl, rfl⟩ := trodVars_none hV
 obtain ⟨a0, e0, g0⟩ := vP EY Tryz.underlying22 (hval 0 22 v0 rfl rfl) h0
 obtain ⟨fu, hF⟩ := rY a0 g0
 refine Calls.mono (rM (ab.EJ (CV W)) e0 hF) ?_
 rintro _ W' ⟨_, rfl, rfl, hst⟩
 have hb := zE hst.sub
 exact ⟨_, rfl, BD (by kernel_rfl) (by kernel_rfl) hW1 rfl rfl rfl rfl rfl Tryz.underlying4 hb⟩

def yx : List Char := List.map Char.ofNat [97, 116, 32, 108, 111, 111, 112, 46, 101, 120, 97, 109, 112, 108, 101, 47, 99, 117, 116, 116, 105, 110, 103, 112, 108, 97, 110, 101, 115, 47, 108, 97, 119, 115, 46, 70, 110, 69, 110, 99, 111, 100, 101, 70, 105, 108, 116, 101, 114, 32, 108, 111, 111, 112, 46, 101, 120, 97, 109, 112, 108, 101, 47, 99, 117, 116, 116, 105, 110, 103, 112, 108, 97, 110, 101, 115, 47, 108, 97, 119, 115, 46, 70, 110, 69, 110, 99, 111, 100, 101, 83, 101, 97, 114, 99, 104, 32, 108, 111, 111, 112, 46, 101, 120, 97, 109, 112, 108, 101, 47, 99, 117, 116, 116, 105, 110, 103, 112, 108, 97, 110, 101, 115, 47, 108, 97, 119, 115, 46, 70, 110, 69, 110, 99, 111, 100, 101, 83, 111, 108, 118, 101, 115, 32, 108, 111, 111, 112, 46, 101, 120, 97, 109, 112, 108, 101, 47, 99, 117, 116, 116, 105, 110, 103, 112, 108, 97, 110, 101, 115, 47, 108, 97, 119, 115, 46, 70, 110, 69, 110, 99, 111, 100, 101, 82, 117, 108, 101, 32, 108, 111, 111, 112, 46, 101, 120, 97, 109, 112, 108, 101, 47, 99, 117, 116, 116, 105, 110, 103, 112, 108, 97, 110, 101, 115, 47, 108, 97, 119, 115, 46, 70, 110, 68, 101, 99, 111, 100, 101, 83, 111, 108, 118, 101, 115, 32, 108, 111, 111, 112, 46, 101, 120, 97, 109, 112, 108, 101, 47, 99, 117, 116, 116, 105, 110, 103, 112, 108, 97, 110, 101, 115, 47, 108, 97, 119, 115, 46, 70, 110, 69, 110, 99, 111, 100, 101, 67, 111, 117, 110, 116, 32, 108, 111, 111, 112, 46, 101, 120, 97, 109, 112, 108, 101, 47, 99, 117, 116, 116, 105, 110, 103, 112, 108, 97, 110, 101, 115, 47, 108, 97, 119, 115, 46, 70, 110, 69, 110, 99, 111, 100, 101, 77, 111, 100, 101, 108, 32, 108, 111, 111, 112, 46, 101, 120, 97, 109, 112, 108, 101, 47, 99, 117, 116, 116, 105, 110, 103, 112, 108, 97, 110, 101, 115, 47, 108, 97, 119, 115, 46, 70, 110, 69, 120, 97, 99, 116, 69, 110, 99, 111, 100, 101, 82, 117, 108, 101, 32, 108, 111, 111, 112, 46, 101, 120, 97, 109, 112, 108, 101, 47, 99, 117, 116, 116, 105, 110, 103, 112, 108, 97, 110, 101, 115, 47, 108, 97, 119, 115, 46, 70, 110, 69, 120, 97, 99, 116, 69, 110, 99, 111, 100, 101, 77, 111, 100, 101, 108]
def tQ : List Char := List.map Char.ofNat [101, 48, 48, 55, 101, 50, 97, 48, 48, 51, 97, 57, 97, 49, 99, 50, 48, 97, 53, 100, 102, 50, 52, 50, 49, 102, 49, 57, 102, 100, 53, 98, 101, 102, 56, 54, 101, 57, 51, 55, 98, 55, 56, 50, 56, 52, 54, 54, 98, 102, 54, 51, 50, 55, 98, 102, 48, 99, 98, 51, 100, 57, 48, 98]
theorem Gh : Tryz.prog.initOrder = String.ofList ("harness".toList ++ Char.ofNat 32 :: (tQ ++ Char.ofNat 32 :: ( "cut".toList ++ Char.ofNat 32 :: yx))) := by kernel_rfl
theorem hd : jV Tryz.prog tQ yx := by unfold jV; rw [Gh, String.toList_ofList]
theorem ED : isSumSigns tQ = true := by kernel_rfl
theorem Ef : tQ.all (fun c => c != Char.ofNat 32) = true := by kernel_rfl
theorem f1 : laidOutB Tryz.prog = true := by kernel_rfl
theorem f2 : mapsRowed Tryz.prog = true := by kernel_rfl
theorem f3 : Tryz.prog.inPlace 4 = [] := by kernel_rfl
theorem f4 : Tryz.prog.unfollowed 4 = true := by kernel_rfl
theorem f5 : Tryz.prog.recurses 4 = true := by kernel_rfl
theorem f6 : Tryz.prog.varsNamed 4 = [] := by kernel_rfl
theorem f7 : Tryz.prog.stops = [] := by kernel_rfl
theorem f8 : Tryz.prog.stopKnobs = [] := by kernel_rfl
theorem k1 : Tryz.prog.plainKeys = true := by kernel_rfl
theorem k2 : Tryz.prog.stopsHeard = true := by kernel_rfl
theorem k6 : Tryz.prog.laysLater = false := by kernel_rfl
theorem k7 : Tryz.prog.bearsReflect = false := by kernel_rfl
theorem k8 : Tryz.prog.doorFits [] = true := by kernel_rfl
theorem k3 : Tryz.prog.mayEnter = true := hd.enter ED Ef k6 k7 k8
theorem k4 : Tryz.prog.liftsFinal = false := hd.Fw ED Ef
theorem k5 : Tryz.prog.make = some .cut := hd.make ED Ef
theorem closed : joinedFacts Tryz.prog 4 Tryz.f4 Rows.fnEncodeSearchSpec Rows.fnEncodeSearchRow = true := by
 rw [joinedFacts, f1, f2, f3, f4, f5, f6, f7, f8, k1, k2, k3, k4, k5]
 kernel_rfl
theorem named : Tryz.pinned.checked.prog.funcNamed "loop.example/cuttingplanes/laws.FnEncodeSearch" = some 4 := by kernel_rfl
theorem inst : Tryz.f4.isInstance Tryz.prog Rows.fnEncodeSearchRow.origin Rows.fnEncodeSearchRow.targs := of_decide_eq_true (by kernel_rfl)
theorem wrapper : Tryz.f4.isWrapper Tryz.prog Rows.fnEncodeSearchRow.wrapper Rows.fnEncodeSearchRow.mainSum := by unfold Func.isWrapper; rw [if_neg (by decide +kernel)]; exact ⟨rfl, rfl⟩
theorem fnEncodeSearch_holds : Rows.FnEncodeSearchSaid :=
 OpenClaim.holds_of_wide 4 Tryz.f4 rfl rfl rfl rfl rfl rfl rfl ⟨rfl, rfl, rfl, rfl, rfl⟩ rfl rfl rfl rfl rfl named Tryz.func4 closed inst wrapper
  (fun os started H enc _ => lifted os started H enc)
#print axioms fnEncodeSearch_holds
end Go.Proofs.YtbjllamkfmejlaaGreat

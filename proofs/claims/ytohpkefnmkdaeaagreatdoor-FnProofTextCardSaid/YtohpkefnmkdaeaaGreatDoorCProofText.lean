/- The law FnProofText answers true at every input, and its arguments read afterwards as before. The listed variables of the library hold what its text lays; there is no other condition. -/
import Derived.Test.YtohpkefnmkdaeaaGreatDoorW3
import Derived.Test.YtohpkefnmkdaeaaGreatDoorG16
import Derived.Test.YtohpkefnmkdaeaaGreatDoorKZ
import Derived.Test.YtohpkefnmkdaeaaGreatDoorChecked
import Derived.Test.YtohpkefnmkdaeaaGreatDoorRows
import Derived.Test.YtohpkefnmkdaeaaGreatDoorCards
import Derived.Test.YtohpkefnmkdaeaaGreatDoorTie
namespace Go.Proofs.YtohpkefnmkdaeaaGreatDoor
open Go Go.E Go.L Go.RowKit Go.ChangeShapes Go.WideShapes Go.ChangeAt
set_option linter.unusedVariables false
set_option maxRecDepth 100000
theorem own : ownKnob Tryz.prog.godebug = none := by kernel_rfl
theorem opn_5 : Opn Tryz.prog 5 RP.u8 (fun _ => True) := opn_u8 Tryz.underlying5 (by kernel_rfl)
theorem opn_31 : Opn Tryz.prog 31 (RP.slice 5 RP.u8) (fun xs => xs.length ≤ 9223372036854775807 ∧ ∀ x ∈ xs, True) := opn_bytes Tryz.underlying31 (by kernel_rfl) opn_5
theorem gN3 : Tryz.prog.globalNamed "internal/strconv.uint64pow10" = some 3 := by kernel_rfl
theorem gN1 : Tryz.prog.globalNamed "strconv.ErrSyntax" = some 1 := by kernel_rfl
theorem gN2 : Tryz.prog.globalNamed "strconv.ErrRange" = some 2 := by kernel_rfl
theorem rowErr (u : TypeId) (h : Tryz.prog.typeName? 3 u = some "*errors.errorString") : u = 206 :=
  typeName_ptr_named (nm := "errors.errorString") (by kernel_rfl) (by kernel_rfl) (by decide) u h
theorem glob_of {W : World} (h : laidMetH Tryz.prog Rows.fnProofTextRow.laid W) (hs : W.ShapedOpen Tryz.prog) : GlobW W := by
  rw [MakeChecks.laidMetH_plain _ _ _ (by kernel_rfl)] at h
  have h : laidMet Tryz.prog [("math/bits.deBruijn32tab", Rows.laid_math_bits_deBruijn32tab), ("math/bits.deBruijn64tab", Rows.laid_math_bits_deBruijn64tab), ("internal/strconv.uint64pow10", Rows.laid_internal_strconv_uint64pow10), ("unicode/utf8.acceptRanges", Rows.laid_unicode_utf8_acceptRanges), ("strconv.ErrRange", Rows.laid_strconv_ErrRange), ("strconv.ErrSyntax", Rows.laid_strconv_ErrSyntax), ("unicode/utf8.first", Rows.laid_unicode_utf8_first)] W := h
  have e1 : (Rows.laid_internal_strconv_uint64pow10 : DataW Unit) = Go.Lib.tabData .u64 Go.Lib.pow10Tab := by kernel_rfl
  rw [e1] at h
  obtain ⟨a1, _, v1, _⟩ := laid_sentinel (tp := 206) (te := 208) (ts := 9) (h.tail.tail.tail.tail.tail) gN1 (by kernel_rfl) Tryz.underlying92 rowErr Tryz.underlying206 Tryz.underlying208 rfl rfl Tryz.underlying9 (by kernel_rfl) (by kernel_rfl)
  obtain ⟨a2, _, v2, _⟩ := laid_sentinel (tp := 206) (te := 208) (ts := 9) (h.tail.tail.tail.tail) gN2 (by kernel_rfl) Tryz.underlying92 rowErr Tryz.underlying206 Tryz.underlying208 rfl rfl Tryz.underlying9 (by kernel_rfl) (by kernel_rfl)
  exact ⟨Go.Lib.tabIs_of_head gN3 (by kernel_rfl) Tryz.underlying198 Tryz.underlying179 (by kernel_rfl) (by kernel_rfl) (h.tail.tail), cell_of_shapedOpen_int hs (by rw [show Tryz.prog.globals.size = 8 by kernel_rfl]; decide) (t := 3) (zero := #[.int .i64 0]) (by kernel_rfl) rfl (by kernel_rfl) (by kernel_rfl) Tryz.underlying3, err_cell gN1 v1, err_cell gN2 v2⟩
noncomputable def laidWorld (os : Os) : World :=
  let w0 := World.doorLaid Tryz.prog 72 os
  { w0 with heap := w0.heap.modify 4 fun
      | .cells _ t z => .cells (Go.Pinned.utf8FirstZ.map fun (n : Nat) => Value.int .u8 ((n : Nat) : Int)).toArray t z
      | o => o }
theorem world_met (os : Os) (args : Array Value) : laidMetH Tryz.prog Rows.fnProofTextRow.laid ((laidWorld os).forCall (fun _ _ => 0) ⟨#[], args, []⟩).memory :=
  laidMetH_of_parts3 (fuel := 8) (laidMet_of_run' 8 (by kernel_rfl) (by kernel_rfl)) (by kernel_rfl) (by kernel_rfl)
theorem lifted (os : Os) (started : os.Started) (H : Type) (enc : TypeId × Value → H) :
    ReturnsInHanded {} Tryz.checked os 6 .any (fun w args => (Rows.fnProofTextSpec.pre enc Tryz.prog Tryz.f6 [] false w args ∧ laidMetH Tryz.prog Rows.fnProofTextRow.laid w) ∧ sizedMet enc Tryz.prog Tryz.f6 (OpenSpec.ofChange Rows.fnProofTextSpec) false w args)
      (Rows.fnProofTextSpec.post enc Tryz.prog Tryz.f6 false true false false) := by
  refine returns_laid (C := Tryz.checked) own started (by kernel_rfl) Tryz.func6
    (ChangeSpec.witness_shaped (enc := enc) (C := Tryz.checked) (os := os) (X := fun w _ => laidMetH Tryz.prog Rows.fnProofTextRow.laid w) false (laidWorld os) #[.slice none 0 0, .slice none 0 0] 8 rfl (World.shaped_of_RefB (by kernel_rfl) (by kernel_rfl)) (by kernel_rfl) (by kernel_rfl) (by kernel_rfl) (world_met os _)) ?_
  intro W base args ds gs before hval0 hW hL hS
  have gw := glob_of hL hS
  have hval : ∀ (j : Nat) t v, Tryz.f6.params[j]? = some t → args[j]? = some v → Value.okWide Tryz.prog W .any base t v := hval0
  have hW1 : DataW.Whole enc Tryz.prog Tryz.f6.params.toList Rows.fnProofTextSpec.vars false W args.toList ds gs before := hW
  have hW2 := hW1
  obtain ⟨p, q, hA0, hV, rfl, hfz, hnd⟩ := hW2
  have hA : DataW.TrodAll enc Tryz.prog W 0 (fun _ => true) true Tryz.f6.params.toList args.toList ds p := hA0
  rw [Tryz.params6] at hA hval
  obtain ⟨v0, vs0, d0, ds0, p0, q0, hargs, rfl, rfl, h0, r0⟩ := trodAll_cons hA
  obtain ⟨v1, vs1, d1, ds1, p1, q1, rfl, rfl, rfl, h1, r1⟩ := trodAll_cons r0
  obtain ⟨rfl, rfl, rfl⟩ := trodAll_nil r1
  obtain rfl : args = #[v0, v1] := args_of hargs
  obtain ⟨rfl, rfl⟩ := trodVars_none hV
  obtain ⟨a0, e0, g0⟩ := opn_slice_arg gw opn_31 Tryz.underlying31 (hval 0 31 v0 rfl rfl) h0
  obtain ⟨a1, e1, g1⟩ := opn_slice_arg gw opn_31 Tryz.underlying31 (hval 1 31 v1 rfl rfl) h1
  obtain ⟨fu, hF⟩ := FnProofText_ok a0 a1 g0 g1
  refine Calls.mono (l_FnProofText_c (Star.of_sub (sub_full W gw)) e0 e1 hF) ?_
  rintro _ W' ⟨_, rfl, rfl, hst⟩
  have hb := below_full hst.sub
  exact ⟨_, rfl, post_true (by kernel_rfl) (by kernel_rfl) hW1 rfl rfl rfl rfl rfl Tryz.underlying4 hb⟩
def headRest : List Char := List.map Char.ofNat [97, 116, 32, 108, 111, 111, 112, 46, 101, 120, 97, 109, 112, 108, 101, 47, 99, 117, 116, 116, 105, 110, 103, 112, 108, 97, 110, 101, 115, 47, 108, 97, 119, 115, 46, 70, 110, 69, 120, 97, 99, 116, 80, 97, 114, 115, 101, 77, 111, 100, 101, 108, 32, 108, 111, 111, 112, 46, 101, 120, 97, 109, 112, 108, 101, 47, 99, 117, 116, 116, 105, 110, 103, 112, 108, 97, 110, 101, 115, 47, 108, 97, 119, 115, 46, 70, 110, 77, 111, 100, 101, 108, 84, 101, 120, 116, 32, 108, 111, 111, 112, 46, 101, 120, 97, 109, 112, 108, 101, 47, 99, 117, 116, 116, 105, 110, 103, 112, 108, 97, 110, 101, 115, 47, 108, 97, 119, 115, 46, 70, 110, 69, 120, 97, 99, 116, 80, 97, 114, 115, 101, 80, 114, 111, 111, 102, 32, 108, 111, 111, 112, 46, 101, 120, 97, 109, 112, 108, 101, 47, 99, 117, 116, 116, 105, 110, 103, 112, 108, 97, 110, 101, 115, 47, 108, 97, 119, 115, 46, 70, 110, 80, 114, 111, 111, 102, 84, 101, 120, 116]
def headSum : List Char := List.map Char.ofNat [100, 50, 56, 99, 55, 49, 56, 100, 55, 57, 55, 53, 51, 100, 49, 52, 48, 49, 55, 99, 50, 48, 100, 48, 49, 56, 50, 53, 56, 100, 55, 102, 50, 97, 56, 57, 52, 52, 56, 102, 101, 102, 56, 48, 57, 57, 56, 48, 56, 100, 100, 98, 52, 101, 50, 57, 48, 100, 52, 57, 55, 97, 97, 51]
theorem hd0 : Tryz.prog.initOrder = String.ofList ("harness".toList ++ Char.ofNat 32 :: (headSum ++ Char.ofNat 32 :: ( "cut".toList ++ Char.ofNat 32 :: headRest))) := by kernel_rfl
theorem hd : HeadIs Tryz.prog headSum headRest := by unfold HeadIs; rw [hd0, String.toList_ofList]
theorem hs1 : isSumSigns headSum = true := by kernel_rfl
theorem hs2 : headSum.all (fun c => c != Char.ofNat 32) = true := by kernel_rfl
theorem f1 : laidOutB Tryz.prog = true := by kernel_rfl
theorem f2 : mapsRowed Tryz.prog = true := by kernel_rfl
theorem f3 : Tryz.prog.inPlace 6 = ["internal/abi.NoEscape", "internal/bytealg.CountString", "internal/bytealg.IndexByteString", "internal/bytealg.IndexString"] := by kernel_rfl
theorem f4 : Tryz.prog.unfollowed 6 = true := by kernel_rfl
theorem f5 : Tryz.prog.recurses 6 = true := by kernel_rfl
theorem f6 : Tryz.prog.varsNamed 6 = ["internal/strconv.uint64pow10", "math/bits.deBruijn32tab", "math/bits.deBruijn64tab", "unicode/utf8.first", "unicode/utf8.acceptRanges", "internal/bytealg.MaxLen", "strconv.ErrSyntax", "strconv.ErrRange"] := by kernel_rfl
theorem f7 : Tryz.prog.stops = [] := by kernel_rfl
theorem f8 : Tryz.prog.stopKnobs = [] := by kernel_rfl
theorem k1 : Tryz.prog.plainKeys = true := by kernel_rfl
theorem k2 : Tryz.prog.stopsHeard = true := by kernel_rfl
theorem k6 : Tryz.prog.laysLater = false := by kernel_rfl
theorem k7 : Tryz.prog.bearsReflect = false := by kernel_rfl
theorem k8 : Tryz.prog.doorFits [] = true := by kernel_rfl
theorem k3 : Tryz.prog.mayEnter = true := hd.enter hs1 hs2 k6 k7 k8
theorem k4 : Tryz.prog.liftsFinal = false := hd.lifts hs1 hs2
theorem k5 : Tryz.prog.make = some .cut := hd.make hs1 hs2
theorem closed : joinedFacts Tryz.prog 6 Tryz.f6 Rows.fnProofTextSpec Rows.fnProofTextRow = true := by
  rw [joinedFacts, f1, f2, f3, f4, f5, f6, f7, f8, k1, k2, k3, k4, k5]
  kernel_rfl
theorem fnamed : Tryz.pinned.checked.prog.funcNamed "loop.example/cuttingplanes/laws.FnProofText" = some 6 := by kernel_rfl
theorem inst : Tryz.f6.isInstance Tryz.prog Rows.fnProofTextRow.origin Rows.fnProofTextRow.targs := of_decide_eq_true (by kernel_rfl)
theorem wrapper : Tryz.f6.isWrapper Tryz.prog Rows.fnProofTextRow.wrapper Rows.fnProofTextRow.mainSum := by unfold Func.isWrapper; rw [if_neg (by decide +kernel)]; exact ⟨rfl, rfl⟩
theorem row_holds : Rows.FnProofTextSaid :=
  OpenClaim.holds_of_wide 6 Tryz.f6 rfl rfl rfl rfl rfl rfl rfl ⟨rfl, rfl, rfl, rfl, rfl⟩ rfl rfl rfl rfl rfl fnamed Tryz.func6 closed inst wrapper
    (fun os started H enc _ => lifted os started H enc)
theorem no_stand (t : TypeId) (h : t ∈ Tryz.f6.params.toList) : Tryz.prog.wantsStandIn t = false := by
  rw [Tryz.params6] at h
  simp only [List.mem_cons, List.mem_nil_iff, or_false] at h
  rcases h with rfl | rfl <;> kernel_rfl
theorem fnProofText_holds : Rows.FnProofTextCardSaid :=
  Claim7.holds_tied_plain_at .later [] [.data, .data, .data, .data, .sentinel, .sentinel, .pinned] true (true, "d28c718d79753d14017c20d018258d7f2a89448fef8099808ddb4e290d497aa3") true row_holds (fun _ h => by cases h) (by kernel_rfl) (fun _ h => by cases h) fnProofText_row_tie rfl ⟨rfl, rfl⟩ (by kernel_rfl) rfl
    (fun g fn hg hfn => by
      obtain rfl : g = 6 := Option.some.inj (hg.symm.trans fnamed)
      obtain rfl : fn = Tryz.f6 := (Option.some.inj (Tryz.func6.symm.trans hfn)).symm
      exact ⟨by kernel_rfl, fun j t ht => no_stand t (List.mem_of_getElem? (i := j) (by simpa using ht))⟩)
    (by kernel_rfl)
#print axioms fnProofText_holds
end Go.Proofs.YtohpkefnmkdaeaaGreatDoor

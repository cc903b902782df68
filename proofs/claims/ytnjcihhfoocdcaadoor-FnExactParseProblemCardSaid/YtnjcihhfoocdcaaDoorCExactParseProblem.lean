/- The law FnExactParseProblem answers true at every input, and its arguments read afterwards as before. The listed variables of the library hold what its text lays; there is no other condition. -/
import Derived.Test.YtnjcihhfoocdcaaDoorW1
import Derived.Test.YtnjcihhfoocdcaaDoorG16
import Derived.Test.YtnjcihhfoocdcaaDoorKZ
import Derived.Test.YtnjcihhfoocdcaaDoorChecked
import Derived.Test.YtnjcihhfoocdcaaDoorRows
import Derived.Test.YtnjcihhfoocdcaaDoorCards
import Derived.Test.YtnjcihhfoocdcaaDoorTie
namespace Go.Proofs.YtnjcihhfoocdcaaDoor
open Go Go.E Go.L Go.RowKit Go.ChangeShapes Go.WideShapes Go.ChangeAt
set_option linter.unusedVariables false
set_option maxRecDepth 100000
theorem own : ownKnob Tryd.prog.godebug = none := by kernel_rfl
theorem gN3 : Tryd.prog.globalNamed "internal/strconv.uint64pow10" = some 3 := by kernel_rfl
theorem gN1 : Tryd.prog.globalNamed "strconv.ErrSyntax" = some 1 := by kernel_rfl
theorem gN2 : Tryd.prog.globalNamed "strconv.ErrRange" = some 2 := by kernel_rfl
theorem rowErr (u : TypeId) (h : Tryd.prog.typeName? 3 u = some "*errors.errorString") : u = 143 :=
  typeName_ptr_named (nm := "errors.errorString") (by kernel_rfl) (by kernel_rfl) (by decide) u h
theorem glob_of {W : World} (h : laidMetH Tryd.prog Rows.fnExactParseProblemRow.laid W) (hs : W.ShapedOpen Tryd.prog) : GlobW W := by
  rw [MakeChecks.laidMetH_plain _ _ _ (by kernel_rfl)] at h
  have h : laidMet Tryd.prog [("math/bits.deBruijn32tab", Rows.laid_math_bits_deBruijn32tab), ("math/bits.deBruijn64tab", Rows.laid_math_bits_deBruijn64tab), ("internal/strconv.uint64pow10", Rows.laid_internal_strconv_uint64pow10), ("unicode/utf8.acceptRanges", Rows.laid_unicode_utf8_acceptRanges), ("strconv.ErrRange", Rows.laid_strconv_ErrRange), ("strconv.ErrSyntax", Rows.laid_strconv_ErrSyntax), ("unicode/utf8.first", Rows.laid_unicode_utf8_first)] W := h
  have e1 : (Rows.laid_internal_strconv_uint64pow10 : DataW Unit) = Go.Lib.tabData .u64 Go.Lib.pow10Tab := by kernel_rfl
  rw [e1] at h
  obtain ⟨a1, _, v1, _⟩ := laid_sentinel (tp := 143) (te := 145) (ts := 9) (h.tail.tail.tail.tail.tail) gN1 (by kernel_rfl) Tryd.underlying77 rowErr Tryd.underlying143 Tryd.underlying145 rfl rfl Tryd.underlying9 (by kernel_rfl) (by kernel_rfl)
  obtain ⟨a2, _, v2, _⟩ := laid_sentinel (tp := 143) (te := 145) (ts := 9) (h.tail.tail.tail.tail) gN2 (by kernel_rfl) Tryd.underlying77 rowErr Tryd.underlying143 Tryd.underlying145 rfl rfl Tryd.underlying9 (by kernel_rfl) (by kernel_rfl)
  exact ⟨Go.Lib.tabIs_of_head gN3 (by kernel_rfl) Tryd.underlying132 Tryd.underlying119 (by kernel_rfl) (by kernel_rfl) (h.tail.tail), cell_of_shapedOpen_int hs (by rw [show Tryd.prog.globals.size = 8 by kernel_rfl]; decide) (t := 3) (zero := #[.int .i64 0]) (by kernel_rfl) rfl (by kernel_rfl) (by kernel_rfl) Tryd.underlying3, err_cell gN1 v1, err_cell gN2 v2⟩
noncomputable def laidWorld (os : Os) : World :=
  let w0 := World.doorLaid Tryd.prog 72 os
  { w0 with heap := w0.heap.modify 4 fun
      | .cells _ t z => .cells (Go.Pinned.utf8FirstZ.map fun (n : Nat) => Value.int .u8 ((n : Nat) : Int)).toArray t z
      | o => o }
theorem world_met (os : Os) (args : Array Value) : laidMetH Tryd.prog Rows.fnExactParseProblemRow.laid ((laidWorld os).forCall (fun _ _ => 0) ⟨#[], args, []⟩).memory :=
  laidMetH_of_parts3 (fuel := 8) (laidMet_of_run' 8 (by kernel_rfl) (by kernel_rfl)) (by kernel_rfl) (by kernel_rfl)
theorem lifted (os : Os) (started : os.Started) (H : Type) (enc : TypeId × Value → H) :
    ReturnsInHanded {} Tryd.checked os 7 .any (fun w args => (Rows.fnExactParseProblemSpec.pre enc Tryd.prog Tryd.f7 [] false w args ∧ laidMetH Tryd.prog Rows.fnExactParseProblemRow.laid w) ∧ sizedMet enc Tryd.prog Tryd.f7 (OpenSpec.ofChange Rows.fnExactParseProblemSpec) false w args)
      (Rows.fnExactParseProblemSpec.post enc Tryd.prog Tryd.f7 false true false false) := by
  refine returns_laid (C := Tryd.checked) own started (by kernel_rfl) Tryd.func7
    (ChangeSpec.witness_shaped (enc := enc) (C := Tryd.checked) (os := os) (X := fun w _ => laidMetH Tryd.prog Rows.fnExactParseProblemRow.laid w) false (laidWorld os) #[.string ByteArray.empty] 8 rfl (World.shaped_of_RefB (by kernel_rfl) (by kernel_rfl)) (by kernel_rfl) (by kernel_rfl) (by kernel_rfl) (world_met os _)) ?_
  intro W base args ds gs before hval0 hW hL hS
  have gw := glob_of hL hS
  have hval : ∀ (j : Nat) t v, Tryd.f7.params[j]? = some t → args[j]? = some v → Value.okWide Tryd.prog W .any base t v := hval0
  have hW1 : DataW.Whole enc Tryd.prog Tryd.f7.params.toList Rows.fnExactParseProblemSpec.vars false W args.toList ds gs before := hW
  have hW2 := hW1
  obtain ⟨p, q, hA0, hV, rfl, hfz, hnd⟩ := hW2
  have hA : DataW.TrodAll enc Tryd.prog W 0 (fun _ => true) true Tryd.f7.params.toList args.toList ds p := hA0
  rw [Tryd.params7] at hA hval
  obtain ⟨v0, vs0, d0, ds0, p0, q0, hargs, rfl, rfl, h0, r0⟩ := trodAll_cons hA
  obtain ⟨rfl, rfl, rfl⟩ := trodAll_nil r0
  obtain rfl : args = #[v0] := args_of hargs
  obtain ⟨rfl, rfl⟩ := trodVars_none hV
  obtain ⟨a0, rfl, g0⟩ := opn_str_arg Tryd.underlying9 (hval 0 9 v0 rfl rfl) h0
  obtain ⟨fu, hF⟩ := FnExactParseProblem_ok a0 g0
  refine Calls.mono (l_FnExactParseProblem_c (Star.of_sub (sub_full W gw))  hF) ?_
  rintro _ W' ⟨_, rfl, rfl, hst⟩
  have hb := below_full hst.sub
  exact ⟨_, rfl, post_true (by kernel_rfl) (by kernel_rfl) hW1 rfl rfl rfl rfl rfl Tryd.underlying4 hb⟩
def headRest : List Char := List.map Char.ofNat [97, 116, 32, 108, 111, 111, 112, 46, 101, 120, 97, 109, 112, 108, 101, 47, 99, 117, 116, 116, 105, 110, 103, 112, 108, 97, 110, 101, 115, 47, 108, 97, 119, 115, 46, 70, 110, 69, 120, 97, 99, 116, 70, 111, 114, 109, 97, 116, 67, 111, 110, 115, 116, 114, 97, 105, 110, 116, 32, 108, 111, 111, 112, 46, 101, 120, 97, 109, 112, 108, 101, 47, 99, 117, 116, 116, 105, 110, 103, 112, 108, 97, 110, 101, 115, 47, 108, 97, 119, 115, 46, 70, 110, 69, 120, 97, 99, 116, 80, 97, 114, 115, 101, 67, 111, 110, 115, 116, 114, 97, 105, 110, 116, 32, 108, 111, 111, 112, 46, 101, 120, 97, 109, 112, 108, 101, 47, 99, 117, 116, 116, 105, 110, 103, 112, 108, 97, 110, 101, 115, 47, 108, 97, 119, 115, 46, 70, 110, 67, 111, 110, 115, 116, 114, 97, 105, 110, 116, 84, 101, 120, 116, 32, 108, 111, 111, 112, 46, 101, 120, 97, 109, 112, 108, 101, 47, 99, 117, 116, 116, 105, 110, 103, 112, 108, 97, 110, 101, 115, 47, 108, 97, 119, 115, 46, 70, 110, 69, 120, 97, 99, 116, 70, 111, 114, 109, 97, 116, 80, 114, 111, 98, 108, 101, 109, 32, 108, 111, 111, 112, 46, 101, 120, 97, 109, 112, 108, 101, 47, 99, 117, 116, 116, 105, 110, 103, 112, 108, 97, 110, 101, 115, 47, 108, 97, 119, 115, 46, 70, 110, 69, 120, 97, 99, 116, 80, 97, 114, 115, 101, 80, 114, 111, 98, 108, 101, 109]
def headSum : List Char := List.map Char.ofNat [56, 48, 101, 99, 100, 56, 53, 54, 51, 52, 51, 48, 54, 102, 57, 54, 55, 101, 48, 101, 50, 52, 57, 51, 54, 49, 50, 97, 50, 53, 52, 53, 98, 48, 99, 57, 48, 56, 48, 48, 48, 54, 54, 49, 52, 97, 57, 50, 99, 48, 101, 54, 51, 102, 50, 54, 57, 48, 102, 50, 55, 97, 54, 54]
theorem hd0 : Tryd.prog.initOrder = String.ofList ("harness".toList ++ Char.ofNat 32 :: (headSum ++ Char.ofNat 32 :: ( "cut".toList ++ Char.ofNat 32 :: headRest))) := by kernel_rfl
theorem hd : HeadIs Tryd.prog headSum headRest := by unfold HeadIs; rw [hd0, String.toList_ofList]
theorem hs1 : isSumSigns headSum = true := by kernel_rfl
theorem hs2 : headSum.all (fun c => c != Char.ofNat 32) = true := by kernel_rfl
theorem f1 : laidOutB Tryd.prog = true := by kernel_rfl
theorem f2 : mapsRowed Tryd.prog = true := by kernel_rfl
theorem f3 : Tryd.prog.inPlace 7 = ["internal/bytealg.CountString", "internal/bytealg.IndexByteString", "internal/bytealg.IndexString"] := by kernel_rfl
theorem f4 : Tryd.prog.unfollowed 7 = false := by kernel_rfl
theorem f5 : Tryd.prog.recurses 7 = true := by kernel_rfl
theorem f6 : Tryd.prog.varsNamed 7 = ["unicode/utf8.first", "unicode/utf8.acceptRanges", "internal/bytealg.MaxLen", "strconv.ErrSyntax", "strconv.ErrRange", "internal/strconv.uint64pow10", "math/bits.deBruijn32tab", "math/bits.deBruijn64tab"] := by kernel_rfl
theorem f7 : Tryd.prog.stops = [] := by kernel_rfl
theorem f8 : Tryd.prog.stopKnobs = [] := by kernel_rfl
theorem k1 : Tryd.prog.plainKeys = true := by kernel_rfl
theorem k2 : Tryd.prog.stopsHeard = true := by kernel_rfl
theorem k6 : Tryd.prog.laysLater = false := by kernel_rfl
theorem k7 : Tryd.prog.bearsReflect = false := by kernel_rfl
theorem k8 : Tryd.prog.doorFits [] = true := by kernel_rfl
theorem k3 : Tryd.prog.mayEnter = true := hd.enter hs1 hs2 k6 k7 k8
theorem k4 : Tryd.prog.liftsFinal = false := hd.lifts hs1 hs2
theorem k5 : Tryd.prog.make = some .cut := hd.make hs1 hs2
theorem closed : joinedFacts Tryd.prog 7 Tryd.f7 Rows.fnExactParseProblemSpec Rows.fnExactParseProblemRow = true := by
  rw [joinedFacts, f1, f2, f3, f4, f5, f6, f7, f8, k1, k2, k3, k4, k5]
  kernel_rfl
theorem fnamed : Tryd.pinned.checked.prog.funcNamed "loop.example/cuttingplanes/laws.FnExactParseProblem" = some 7 := by kernel_rfl
theorem inst : Tryd.f7.isInstance Tryd.prog Rows.fnExactParseProblemRow.origin Rows.fnExactParseProblemRow.targs := of_decide_eq_true (by kernel_rfl)
theorem wrapper : Tryd.f7.isWrapper Tryd.prog Rows.fnExactParseProblemRow.wrapper Rows.fnExactParseProblemRow.mainSum := by unfold Func.isWrapper; rw [if_neg (by decide +kernel)]; exact ⟨rfl, rfl⟩
theorem row_holds : Rows.FnExactParseProblemSaid :=
  OpenClaim.holds_of_wide 7 Tryd.f7 rfl rfl rfl rfl rfl rfl rfl ⟨rfl, rfl, rfl, rfl, rfl⟩ rfl rfl rfl rfl rfl fnamed Tryd.func7 closed inst wrapper
    (fun os started H enc _ => lifted os started H enc)
theorem no_stand (t : TypeId) (h : t ∈ Tryd.f7.params.toList) : Tryd.prog.wantsStandIn t = false := by
  rw [Tryd.params7] at h
  simp only [List.mem_cons, List.mem_nil_iff, or_false] at h
  subst h
  kernel_rfl
theorem fnExactParseProblem_holds : Rows.FnExactParseProblemCardSaid :=
  Claim7.holds_tied_plain_at .later [] [.data, .data, .data, .data, .sentinel, .sentinel, .pinned] true (true, "80ecd85634306f967e0e2493612a2545b0c9080006614a92c0e63f2690f27a66") true row_holds (fun _ h => by cases h) (by kernel_rfl) (fun _ h => by cases h) fnExactParseProblem_row_tie rfl ⟨rfl, rfl⟩ (by kernel_rfl) rfl
    (fun g fn hg hfn => by
      obtain rfl : g = 7 := Option.some.inj (hg.symm.trans fnamed)
      obtain rfl : fn = Tryd.f7 := (Option.some.inj (Tryd.func7.symm.trans hfn)).symm
      exact ⟨by kernel_rfl, fun j t ht => no_stand t (List.mem_of_getElem? (i := j) (by simpa using ht))⟩)
    (by kernel_rfl)
#print axioms fnExactParseProblem_holds
end Go.Proofs.YtnjcihhfoocdcaaDoor

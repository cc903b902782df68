/-
  No cell of these rows narrows 'for every input' (looked for: loops, veiled, ifaces, maps, wideKeys, modest, calm, conditions, laid).
  DERIVED. THE GIVEN ROWS OF THIS SEAT. 10 by the template 'for every input the law returns true; each argument reads behind the call as it read before'; 0 by the template 'total and deterministic' (their statements: YtcjjfneofcpmfaaTotals.lean).
  GIVEN WITH THE SEED: the statements are not yours to turn. If you find one false, say at which input.
  Laid BY PROGRAM, IN A SANDBOX (cutbox-rows.mjs): the forced cells as the released guide's own fill.sh prints them over the translation 1bbb25f9270227af… (all of the seat's roots in one cut). By AI agents, Wed Nov 11 2026. No macro, syntax, notation, axiom, sorry.
-/
import Derived.Test.YtcjjfneofcpmfaaChecked
import GoSem.Claim
import GoSem.ClaimJoined
import GoSem.ClaimMapViews
import Derived.JoinedTies
import Derived.KernelRfl
namespace Go.Proofs.Ytcjjfneofcpmfaa
/- THE CELL 'sum', in the pinned program and in every row, IS THE sha256 OF THE DUMP (.gsa) THAT YtcjjfneofcpmfaaProg.lean LOADS. Nothing in Lean hashes anything: it is a label: what it is worth is what the hold of that sum in a sandbox is worth. -/
noncomputable def Try.pinned : Pinned := { name := "ytcjjfneofcpmfaa", sum := "1bbb25f9270227afac36f3d98220bb97752b4765d559f982bbfabbf754df4740", checked := Try.checked }
namespace Rows
def none {H : Type} : Left H := { results := [], args := [] }

/-- 'laws.FnBoolVar': WHATEVER THE INPUT: true; the input reads as it did. -/
def fnBoolVarSpec : ChangeSpec := { name := "fnBoolVar", fn := fun _ => fun
  | [d1, d2] => { results := [.lit (.bool true)], args := [d1, d2] }
  | _ => none }
def fnBoolVarRow : OpenClaim := { program := "ytcjjfneofcpmfaa", sum := "1bbb25f9270227afac36f3d98220bb97752b4765d559f982bbfabbf754df4740", func := "loop.example/cuttingplanes/laws.FnBoolVar", spec := "fnBoolVar", unfollowed := true, recurses := true, apart := false }
def FnBoolVarSaid : Prop := fnBoolVarRow.holds Try.pinned (OpenSpec.ofChange fnBoolVarSpec)

/-- ITS FALSE NEIGHBOUR: 'it returns false'. Refute it at one input. -/
def fnBoolVarWrong : ChangeSpec := { name := "fnBoolVar", fn := fun _ => fun
  | [d1, d2] => { results := [.lit (.bool false)], args := [d1, d2] }
  | _ => none }
def FnBoolVarWrongFalsely : Prop := fnBoolVarRow.holds Try.pinned (OpenSpec.ofChange fnBoolVarWrong)

/-- 'laws.FnRuleDifferent': WHATEVER THE INPUT: true; the input reads as it did. -/
def fnRuleDifferentSpec : ChangeSpec := { name := "fnRuleDifferent", fn := fun _ => fun
  | [d] => { results := [.lit (.bool true)], args := [d] }
  | _ => none }
def fnRuleDifferentRow : OpenClaim := { program := "ytcjjfneofcpmfaa", sum := "1bbb25f9270227afac36f3d98220bb97752b4765d559f982bbfabbf754df4740", func := "loop.example/cuttingplanes/laws.FnRuleDifferent", spec := "fnRuleDifferent", unfollowed := true, recurses := true, apart := false }
def FnRuleDifferentSaid : Prop := fnRuleDifferentRow.holds Try.pinned (OpenSpec.ofChange fnRuleDifferentSpec)

/-- ITS FALSE NEIGHBOUR: 'it returns false'. Refute it at one input. -/
def fnRuleDifferentWrong : ChangeSpec := { name := "fnRuleDifferent", fn := fun _ => fun
  | [d] => { results := [.lit (.bool false)], args := [d] }
  | _ => none }
def FnRuleDifferentWrongFalsely : Prop := fnRuleDifferentRow.holds Try.pinned (OpenSpec.ofChange fnRuleDifferentWrong)

/-- 'laws.FnRuleLess': WHATEVER THE INPUT: true; the input reads as it did. -/
def fnRuleLessSpec : ChangeSpec := { name := "fnRuleLess", fn := fun _ => fun
  | [d] => { results := [.lit (.bool true)], args := [d] }
  | _ => none }
def fnRuleLessRow : OpenClaim := { program := "ytcjjfneofcpmfaa", sum := "1bbb25f9270227afac36f3d98220bb97752b4765d559f982bbfabbf754df4740", func := "loop.example/cuttingplanes/laws.FnRuleLess", spec := "fnRuleLess", unfollowed := true, recurses := true, apart := false }
def FnRuleLessSaid : Prop := fnRuleLessRow.holds Try.pinned (OpenSpec.ofChange fnRuleLessSpec)

/-- ITS FALSE NEIGHBOUR: 'it returns false'. Refute it at one input. -/
def fnRuleLessWrong : ChangeSpec := { name := "fnRuleLess", fn := fun _ => fun
  | [d] => { results := [.lit (.bool false)], args := [d] }
  | _ => none }
def FnRuleLessWrongFalsely : Prop := fnRuleLessRow.holds Try.pinned (OpenSpec.ofChange fnRuleLessWrong)

/-- 'laws.FnRuleLinear': WHATEVER THE INPUT: true; the input reads as it did. -/
def fnRuleLinearSpec : ChangeSpec := { name := "fnRuleLinear", fn := fun _ => fun
  | [d] => { results := [.lit (.bool true)], args := [d] }
  | _ => none }
def fnRuleLinearRow : OpenClaim := { program := "ytcjjfneofcpmfaa", sum := "1bbb25f9270227afac36f3d98220bb97752b4765d559f982bbfabbf754df4740", func := "loop.example/cuttingplanes/laws.FnRuleLinear", spec := "fnRuleLinear", unfollowed := true, recurses := true, apart := false }
def FnRuleLinearSaid : Prop := fnRuleLinearRow.holds Try.pinned (OpenSpec.ofChange fnRuleLinearSpec)

/-- ITS FALSE NEIGHBOUR: 'it returns false'. Refute it at one input. -/
def fnRuleLinearWrong : ChangeSpec := { name := "fnRuleLinear", fn := fun _ => fun
  | [d] => { results := [.lit (.bool false)], args := [d] }
  | _ => none }
def FnRuleLinearWrongFalsely : Prop := fnRuleLinearRow.holds Try.pinned (OpenSpec.ofChange fnRuleLinearWrong)

/-- 'laws.FnSolvesModel': WHATEVER THE INPUT: true; the input reads as it did. -/
def fnSolvesModelSpec : ChangeSpec := { name := "fnSolvesModel", fn := fun _ => fun
  | [d] => { results := [.lit (.bool true)], args := [d] }
  | _ => none }
def fnSolvesModelRow : OpenClaim := { program := "ytcjjfneofcpmfaa", sum := "1bbb25f9270227afac36f3d98220bb97752b4765d559f982bbfabbf754df4740", func := "loop.example/cuttingplanes/laws.FnSolvesModel", spec := "fnSolvesModel", unfollowed := true, recurses := true, apart := false }
def FnSolvesModelSaid : Prop := fnSolvesModelRow.holds Try.pinned (OpenSpec.ofChange fnSolvesModelSpec)

/-- ITS FALSE NEIGHBOUR: 'it returns false'. Refute it at one input. -/
def fnSolvesModelWrong : ChangeSpec := { name := "fnSolvesModel", fn := fun _ => fun
  | [d] => { results := [.lit (.bool false)], args := [d] }
  | _ => none }
def FnSolvesModelWrongFalsely : Prop := fnSolvesModelRow.holds Try.pinned (OpenSpec.ofChange fnSolvesModelWrong)

/-- 'laws.FnCountModel': WHATEVER THE INPUT: true; the input reads as it did. -/
def fnCountModelSpec : ChangeSpec := { name := "fnCountModel", fn := fun _ => fun
  | [d1, d2] => { results := [.lit (.bool true)], args := [d1, d2] }
  | _ => none }
def fnCountModelRow : OpenClaim := { program := "ytcjjfneofcpmfaa", sum := "1bbb25f9270227afac36f3d98220bb97752b4765d559f982bbfabbf754df4740", func := "loop.example/cuttingplanes/laws.FnCountModel", spec := "fnCountModel", unfollowed := true, recurses := true, apart := false }
def FnCountModelSaid : Prop := fnCountModelRow.holds Try.pinned (OpenSpec.ofChange fnCountModelSpec)

/-- ITS FALSE NEIGHBOUR: 'it returns false'. Refute it at one input. -/
def fnCountModelWrong : ChangeSpec := { name := "fnCountModel", fn := fun _ => fun
  | [d1, d2] => { results := [.lit (.bool false)], args := [d1, d2] }
  | _ => none }
def FnCountModelWrongFalsely : Prop := fnCountModelRow.holds Try.pinned (OpenSpec.ofChange fnCountModelWrong)

/-- 'laws.FnModelMore': WHATEVER THE INPUT: true; the input reads as it did. -/
def fnModelMoreSpec : ChangeSpec := { name := "fnModelMore", fn := fun _ => fun
  | [d1, d2] => { results := [.lit (.bool true)], args := [d1, d2] }
  | _ => none }
def fnModelMoreRow : OpenClaim := { program := "ytcjjfneofcpmfaa", sum := "1bbb25f9270227afac36f3d98220bb97752b4765d559f982bbfabbf754df4740", func := "loop.example/cuttingplanes/laws.FnModelMore", spec := "fnModelMore", unfollowed := true, recurses := true, apart := false }
def FnModelMoreSaid : Prop := fnModelMoreRow.holds Try.pinned (OpenSpec.ofChange fnModelMoreSpec)

/-- ITS FALSE NEIGHBOUR: 'it returns false'. Refute it at one input. -/
def fnModelMoreWrong : ChangeSpec := { name := "fnModelMore", fn := fun _ => fun
  | [d1, d2] => { results := [.lit (.bool false)], args := [d1, d2] }
  | _ => none }
def FnModelMoreWrongFalsely : Prop := fnModelMoreRow.holds Try.pinned (OpenSpec.ofChange fnModelMoreWrong)

/-- 'laws.FnDecodeValues': WHATEVER THE INPUT: true; the input reads as it did. -/
def fnDecodeValuesSpec : ChangeSpec := { name := "fnDecodeValues", fn := fun _ => fun
  | [d] => { results := [.lit (.bool true)], args := [d] }
  | _ => none }
def fnDecodeValuesRow : OpenClaim := { program := "ytcjjfneofcpmfaa", sum := "1bbb25f9270227afac36f3d98220bb97752b4765d559f982bbfabbf754df4740", func := "loop.example/cuttingplanes/laws.FnDecodeValues", spec := "fnDecodeValues", unfollowed := true, recurses := true, apart := false }
def FnDecodeValuesSaid : Prop := fnDecodeValuesRow.holds Try.pinned (OpenSpec.ofChange fnDecodeValuesSpec)

/-- ITS FALSE NEIGHBOUR: 'it returns false'. Refute it at one input. -/
def fnDecodeValuesWrong : ChangeSpec := { name := "fnDecodeValues", fn := fun _ => fun
  | [d] => { results := [.lit (.bool false)], args := [d] }
  | _ => none }
def FnDecodeValuesWrongFalsely : Prop := fnDecodeValuesRow.holds Try.pinned (OpenSpec.ofChange fnDecodeValuesWrong)

/-- 'laws.FnNextModel': WHATEVER THE INPUT: true; the input reads as it did. -/
def fnNextModelSpec : ChangeSpec := { name := "fnNextModel", fn := fun _ => fun
  | [d] => { results := [.lit (.bool true)], args := [d] }
  | _ => none }
def fnNextModelRow : OpenClaim := { program := "ytcjjfneofcpmfaa", sum := "1bbb25f9270227afac36f3d98220bb97752b4765d559f982bbfabbf754df4740", func := "loop.example/cuttingplanes/laws.FnNextModel", spec := "fnNextModel", unfollowed := true, recurses := true, apart := false }
def FnNextModelSaid : Prop := fnNextModelRow.holds Try.pinned (OpenSpec.ofChange fnNextModelSpec)

/-- ITS FALSE NEIGHBOUR: 'it returns false'. Refute it at one input. -/
def fnNextModelWrong : ChangeSpec := { name := "fnNextModel", fn := fun _ => fun
  | [d] => { results := [.lit (.bool false)], args := [d] }
  | _ => none }
def FnNextModelWrongFalsely : Prop := fnNextModelRow.holds Try.pinned (OpenSpec.ofChange fnNextModelWrong)

/-- 'laws.FnExactNextModel': WHATEVER THE INPUT: true; the input reads as it did. -/
def fnExactNextModelSpec : ChangeSpec := { name := "fnExactNextModel", fn := fun _ => fun
  | [d1, d2] => { results := [.lit (.bool true)], args := [d1, d2] }
  | _ => none }
def fnExactNextModelRow : OpenClaim := { program := "ytcjjfneofcpmfaa", sum := "1bbb25f9270227afac36f3d98220bb97752b4765d559f982bbfabbf754df4740", func := "loop.example/cuttingplanes/laws.FnExactNextModel", spec := "fnExactNextModel", unfollowed := true, recurses := true, apart := false }
def FnExactNextModelSaid : Prop := fnExactNextModelRow.holds Try.pinned (OpenSpec.ofChange fnExactNextModelSpec)

/-- ITS FALSE NEIGHBOUR: 'it returns false'. Refute it at one input. -/
def fnExactNextModelWrong : ChangeSpec := { name := "fnExactNextModel", fn := fun _ => fun
  | [d1, d2] => { results := [.lit (.bool false)], args := [d1, d2] }
  | _ => none }
def FnExactNextModelWrongFalsely : Prop := fnExactNextModelRow.holds Try.pinned (OpenSpec.ofChange fnExactNextModelWrong)

/- THE SECOND FORM. 'bulk': how many values and letters a reading holds, each counted each time it is reached (what is shared counts as often as it is met; a slice's spare places count too). A statement '..UptoSaid' is the law's where the arguments, and the package variables that the reading takes, are together of bulk at most 1048576: NARROWER than '..Said'. Prove '..Said' where nothing that the law and all that it calls make is longer than what came in: it says more and counts as full. Else prove '..UptoSaid'. A law counts once. -/
mutual
def uptoBulk {H : Type} : DataW H → Nat
  | .lit (.string bytes) => bytes.length + 1
  | .lit _ => 1
  | .nil => 1
  | .ptr d => uptoBulk d + 1
  | .slice elems spare => uptoBulkAll elems + uptoBulkAll spare + 1
  | .agg parts => uptoBulkAll parts + 1
  | .iface _ d => uptoBulk d + 1
  | .map entries => uptoBulkEntries entries + 1
  | .held _ => 1
def uptoBulkAll {H : Type} : List (DataW H) → Nat
  | [] => 0
  | d :: r => uptoBulk d + uptoBulkAll r
def uptoBulkEntries {H : Type} : List (Lit × DataW H) → Nat
  | [] => 0
  | x :: r => uptoBulkEntry x + uptoBulkEntries r
def uptoBulkEntry {H : Type} : Lit × DataW H → Nat
  | (.string bytes, d) => bytes.length + uptoBulk d + 1
  | (_, d) => uptoBulk d + 1
 end
def uptoSmall : (H : Type) → List (DataW H) → Bool := fun _ ds => decide (uptoBulkAll ds ≤ 1048576)
def OpenSpec.upto (s : _root_.Go.ChangeSpec) : _root_.Go.OpenSpec := { _root_.Go.OpenSpec.ofChange s with cond := some uptoSmall }

/-- 'laws.FnBoolVar', WHERE WHAT IT READS IS OF BULK AT MOST 1048576: true; the input reads as it did. -/
def fnBoolVarUptoRow : OpenClaim := { program := "ytcjjfneofcpmfaa", sum := "1bbb25f9270227afac36f3d98220bb97752b4765d559f982bbfabbf754df4740", func := "loop.example/cuttingplanes/laws.FnBoolVar", spec := "fnBoolVar", unfollowed := true, recurses := true, apart := false, narrowed := true }
def FnBoolVarUptoSaid : Prop := fnBoolVarUptoRow.holds Try.pinned (OpenSpec.upto fnBoolVarSpec)

/-- 'laws.FnRuleDifferent', WHERE WHAT IT READS IS OF BULK AT MOST 1048576: true; the input reads as it did. -/
def fnRuleDifferentUptoRow : OpenClaim := { program := "ytcjjfneofcpmfaa", sum := "1bbb25f9270227afac36f3d98220bb97752b4765d559f982bbfabbf754df4740", func := "loop.example/cuttingplanes/laws.FnRuleDifferent", spec := "fnRuleDifferent", unfollowed := true, recurses := true, apart := false, narrowed := true }
def FnRuleDifferentUptoSaid : Prop := fnRuleDifferentUptoRow.holds Try.pinned (OpenSpec.upto fnRuleDifferentSpec)

/-- 'laws.FnRuleLess', WHERE WHAT IT READS IS OF BULK AT MOST 1048576: true; the input reads as it did. -/
def fnRuleLessUptoRow : OpenClaim := { program := "ytcjjfneofcpmfaa", sum := "1bbb25f9270227afac36f3d98220bb97752b4765d559f982bbfabbf754df4740", func := "loop.example/cuttingplanes/laws.FnRuleLess", spec := "fnRuleLess", unfollowed := true, recurses := true, apart := false, narrowed := true }
def FnRuleLessUptoSaid : Prop := fnRuleLessUptoRow.holds Try.pinned (OpenSpec.upto fnRuleLessSpec)

/-- 'laws.FnRuleLinear', WHERE WHAT IT READS IS OF BULK AT MOST 1048576: true; the input reads as it did. -/
def fnRuleLinearUptoRow : OpenClaim := { program := "ytcjjfneofcpmfaa", sum := "1bbb25f9270227afac36f3d98220bb97752b4765d559f982bbfabbf754df4740", func := "loop.example/cuttingplanes/laws.FnRuleLinear", spec := "fnRuleLinear", unfollowed := true, recurses := true, apart := false, narrowed := true }
def FnRuleLinearUptoSaid : Prop := fnRuleLinearUptoRow.holds Try.pinned (OpenSpec.upto fnRuleLinearSpec)

/-- 'laws.FnSolvesModel', WHERE WHAT IT READS IS OF BULK AT MOST 1048576: true; the input reads as it did. -/
def fnSolvesModelUptoRow : OpenClaim := { program := "ytcjjfneofcpmfaa", sum := "1bbb25f9270227afac36f3d98220bb97752b4765d559f982bbfabbf754df4740", func := "loop.example/cuttingplanes/laws.FnSolvesModel", spec := "fnSolvesModel", unfollowed := true, recurses := true, apart := false, narrowed := true }
def FnSolvesModelUptoSaid : Prop := fnSolvesModelUptoRow.holds Try.pinned (OpenSpec.upto fnSolvesModelSpec)

/-- 'laws.FnCountModel', WHERE WHAT IT READS IS OF BULK AT MOST 1048576: true; the input reads as it did. -/
def fnCountModelUptoRow : OpenClaim := { program := "ytcjjfneofcpmfaa", sum := "1bbb25f9270227afac36f3d98220bb97752b4765d559f982bbfabbf754df4740", func := "loop.example/cuttingplanes/laws.FnCountModel", spec := "fnCountModel", unfollowed := true, recurses := true, apart := false, narrowed := true }
def FnCountModelUptoSaid : Prop := fnCountModelUptoRow.holds Try.pinned (OpenSpec.upto fnCountModelSpec)

/-- 'laws.FnModelMore', WHERE WHAT IT READS IS OF BULK AT MOST 1048576: true; the input reads as it did. -/
def fnModelMoreUptoRow : OpenClaim := { program := "ytcjjfneofcpmfaa", sum := "1bbb25f9270227afac36f3d98220bb97752b4765d559f982bbfabbf754df4740", func := "loop.example/cuttingplanes/laws.FnModelMore", spec := "fnModelMore", unfollowed := true, recurses := true, apart := false, narrowed := true }
def FnModelMoreUptoSaid : Prop := fnModelMoreUptoRow.holds Try.pinned (OpenSpec.upto fnModelMoreSpec)

/-- 'laws.FnDecodeValues', WHERE WHAT IT READS IS OF BULK AT MOST 1048576: true; the input reads as it did. -/
def fnDecodeValuesUptoRow : OpenClaim := { program := "ytcjjfneofcpmfaa", sum := "1bbb25f9270227afac36f3d98220bb97752b4765d559f982bbfabbf754df4740", func := "loop.example/cuttingplanes/laws.FnDecodeValues", spec := "fnDecodeValues", unfollowed := true, recurses := true, apart := false, narrowed := true }
def FnDecodeValuesUptoSaid : Prop := fnDecodeValuesUptoRow.holds Try.pinned (OpenSpec.upto fnDecodeValuesSpec)

/-- 'laws.FnNextModel', WHERE WHAT IT READS IS OF BULK AT MOST 1048576: true; the input reads as it did. -/
def fnNextModelUptoRow : OpenClaim := { program := "ytcjjfneofcpmfaa", sum := "1bbb25f9270227afac36f3d98220bb97752b4765d559f982bbfabbf754df4740", func := "loop.example/cuttingplanes/laws.FnNextModel", spec := "fnNextModel", unfollowed := true, recurses := true, apart := false, narrowed := true }
def FnNextModelUptoSaid : Prop := fnNextModelUptoRow.holds Try.pinned (OpenSpec.upto fnNextModelSpec)

/-- 'laws.FnExactNextModel', WHERE WHAT IT READS IS OF BULK AT MOST 1048576: true; the input reads as it did. -/
def fnExactNextModelUptoRow : OpenClaim := { program := "ytcjjfneofcpmfaa", sum := "1bbb25f9270227afac36f3d98220bb97752b4765d559f982bbfabbf754df4740", func := "loop.example/cuttingplanes/laws.FnExactNextModel", spec := "fnExactNextModel", unfollowed := true, recurses := true, apart := false, narrowed := true }
def FnExactNextModelUptoSaid : Prop := fnExactNextModelUptoRow.holds Try.pinned (OpenSpec.upto fnExactNextModelSpec)

end Rows
end Go.Proofs.Ytcjjfneofcpmfaa

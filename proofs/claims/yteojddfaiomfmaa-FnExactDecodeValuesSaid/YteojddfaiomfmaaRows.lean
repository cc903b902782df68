/-
  No cell of these rows narrows 'for every input' (looked for: loops, veiled, ifaces, maps, wideKeys, modest, calm, conditions, laid).
  DERIVED. THE GIVEN ROWS OF THIS SEAT. 8 by the template 'for every input the law returns true; each argument reads behind the call as it read before'; 0 by the template 'total and deterministic' (their statements: YteojddfaiomfmaaTotals.lean).
  GIVEN WITH THE SEED: the statements are not yours to turn. If you find one false, say at which input.
  Laid BY PROGRAM, IN A SANDBOX (cutbox-rows.mjs): the forced cells as the released guide's own fill.sh prints them over the translation 736f0b9e17bb976d… (all of the seat's roots in one cut). By AI agents, Wed Nov 11 2026. No macro, syntax, notation, axiom, sorry.
-/
import Derived.Test.YteojddfaiomfmaaChecked
import GoSem.Claim
import GoSem.ClaimJoined
import GoSem.ClaimMapViews
import Derived.JoinedTies
import Derived.KernelRfl
namespace Go.Proofs.Yteojddfaiomfmaa
/- THE CELL 'sum', in the pinned program and in every row, IS THE sha256 OF THE DUMP (.gsa) THAT YteojddfaiomfmaaProg.lean LOADS. Nothing in Lean hashes anything: it is a label: what it is worth is what the hold of that sum in a sandbox is worth. -/
noncomputable def Try.pinned : Pinned := { name := "yteojddfaiomfmaa", sum := "736f0b9e17bb976d8838b58d9c063e9e2b5749a5fcbe30cc00412f8d377f86ff", checked := Try.checked }
namespace Rows
def none {H : Type} : Left H := { results := [], args := [] }

/-- 'laws.FnExactBoolVar': WHATEVER THE INPUT: true; the input reads as it did. -/
def fnExactBoolVarSpec : ChangeSpec := { name := "fnExactBoolVar", fn := fun _ => fun
  | [d1, d2, d3] => { results := [.lit (.bool true)], args := [d1, d2, d3] }
  | _ => none }
def fnExactBoolVarRow : OpenClaim := { program := "yteojddfaiomfmaa", sum := "736f0b9e17bb976d8838b58d9c063e9e2b5749a5fcbe30cc00412f8d377f86ff", func := "loop.example/cuttingplanes/laws.FnExactBoolVar", spec := "fnExactBoolVar", unfollowed := true, recurses := true, apart := false }
def FnExactBoolVarSaid : Prop := fnExactBoolVarRow.holds Try.pinned (OpenSpec.ofChange fnExactBoolVarSpec)

/-- ITS FALSE NEIGHBOUR: 'it returns false'. Refute it at one input. -/
def fnExactBoolVarWrong : ChangeSpec := { name := "fnExactBoolVar", fn := fun _ => fun
  | [d1, d2, d3] => { results := [.lit (.bool false)], args := [d1, d2, d3] }
  | _ => none }
def FnExactBoolVarWrongFalsely : Prop := fnExactBoolVarRow.holds Try.pinned (OpenSpec.ofChange fnExactBoolVarWrong)

/-- 'laws.FnExactFreeVars': WHATEVER THE INPUT: true; the input reads as it did. -/
def fnExactFreeVarsSpec : ChangeSpec := { name := "fnExactFreeVars", fn := fun _ => fun
  | [d] => { results := [.lit (.bool true)], args := [d] }
  | _ => none }
def fnExactFreeVarsRow : OpenClaim := { program := "yteojddfaiomfmaa", sum := "736f0b9e17bb976d8838b58d9c063e9e2b5749a5fcbe30cc00412f8d377f86ff", func := "loop.example/cuttingplanes/laws.FnExactFreeVars", spec := "fnExactFreeVars", unfollowed := true, recurses := true, apart := false }
def FnExactFreeVarsSaid : Prop := fnExactFreeVarsRow.holds Try.pinned (OpenSpec.ofChange fnExactFreeVarsSpec)

/-- ITS FALSE NEIGHBOUR: 'it returns false'. Refute it at one input. -/
def fnExactFreeVarsWrong : ChangeSpec := { name := "fnExactFreeVars", fn := fun _ => fun
  | [d] => { results := [.lit (.bool false)], args := [d] }
  | _ => none }
def FnExactFreeVarsWrongFalsely : Prop := fnExactFreeVarsRow.holds Try.pinned (OpenSpec.ofChange fnExactFreeVarsWrong)

/-- 'laws.FnExactDomainsValid': WHATEVER THE INPUT: true; the input reads as it did. -/
def fnExactDomainsValidSpec : ChangeSpec := { name := "fnExactDomainsValid", fn := fun _ => fun
  | [d1, d2] => { results := [.lit (.bool true)], args := [d1, d2] }
  | _ => none }
def fnExactDomainsValidRow : OpenClaim := { program := "yteojddfaiomfmaa", sum := "736f0b9e17bb976d8838b58d9c063e9e2b5749a5fcbe30cc00412f8d377f86ff", func := "loop.example/cuttingplanes/laws.FnExactDomainsValid", spec := "fnExactDomainsValid", unfollowed := true, recurses := true, apart := false }
def FnExactDomainsValidSaid : Prop := fnExactDomainsValidRow.holds Try.pinned (OpenSpec.ofChange fnExactDomainsValidSpec)

/-- ITS FALSE NEIGHBOUR: 'it returns false'. Refute it at one input. -/
def fnExactDomainsValidWrong : ChangeSpec := { name := "fnExactDomainsValid", fn := fun _ => fun
  | [d1, d2] => { results := [.lit (.bool false)], args := [d1, d2] }
  | _ => none }
def FnExactDomainsValidWrongFalsely : Prop := fnExactDomainsValidRow.holds Try.pinned (OpenSpec.ofChange fnExactDomainsValidWrong)

/-- 'laws.FnExactRuleHolds': WHATEVER THE INPUT: true; the input reads as it did. -/
def fnExactRuleHoldsSpec : ChangeSpec := { name := "fnExactRuleHolds", fn := fun _ => fun
  | [d1, d2, d3] => { results := [.lit (.bool true)], args := [d1, d2, d3] }
  | _ => none }
def fnExactRuleHoldsRow : OpenClaim := { program := "yteojddfaiomfmaa", sum := "736f0b9e17bb976d8838b58d9c063e9e2b5749a5fcbe30cc00412f8d377f86ff", func := "loop.example/cuttingplanes/laws.FnExactRuleHolds", spec := "fnExactRuleHolds", unfollowed := true, recurses := true, apart := false }
def FnExactRuleHoldsSaid : Prop := fnExactRuleHoldsRow.holds Try.pinned (OpenSpec.ofChange fnExactRuleHoldsSpec)

/-- ITS FALSE NEIGHBOUR: 'it returns false'. Refute it at one input. -/
def fnExactRuleHoldsWrong : ChangeSpec := { name := "fnExactRuleHolds", fn := fun _ => fun
  | [d1, d2, d3] => { results := [.lit (.bool false)], args := [d1, d2, d3] }
  | _ => none }
def FnExactRuleHoldsWrongFalsely : Prop := fnExactRuleHoldsRow.holds Try.pinned (OpenSpec.ofChange fnExactRuleHoldsWrong)

/-- 'laws.FnExactEncodeCells': WHATEVER THE INPUT: true; the input reads as it did. -/
def fnExactEncodeCellsSpec : ChangeSpec := { name := "fnExactEncodeCells", fn := fun _ => fun
  | [d1, d2] => { results := [.lit (.bool true)], args := [d1, d2] }
  | _ => none }
def fnExactEncodeCellsRow : OpenClaim := { program := "yteojddfaiomfmaa", sum := "736f0b9e17bb976d8838b58d9c063e9e2b5749a5fcbe30cc00412f8d377f86ff", func := "loop.example/cuttingplanes/laws.FnExactEncodeCells", spec := "fnExactEncodeCells", unfollowed := true, recurses := true, apart := false }
def FnExactEncodeCellsSaid : Prop := fnExactEncodeCellsRow.holds Try.pinned (OpenSpec.ofChange fnExactEncodeCellsSpec)

/-- ITS FALSE NEIGHBOUR: 'it returns false'. Refute it at one input. -/
def fnExactEncodeCellsWrong : ChangeSpec := { name := "fnExactEncodeCells", fn := fun _ => fun
  | [d1, d2] => { results := [.lit (.bool false)], args := [d1, d2] }
  | _ => none }
def FnExactEncodeCellsWrongFalsely : Prop := fnExactEncodeCellsRow.holds Try.pinned (OpenSpec.ofChange fnExactEncodeCellsWrong)

/-- 'laws.FnExactSolvesModel': WHATEVER THE INPUT: true; the input reads as it did. -/
def fnExactSolvesModelSpec : ChangeSpec := { name := "fnExactSolvesModel", fn := fun _ => fun
  | [d1, d2] => { results := [.lit (.bool true)], args := [d1, d2] }
  | _ => none }
def fnExactSolvesModelRow : OpenClaim := { program := "yteojddfaiomfmaa", sum := "736f0b9e17bb976d8838b58d9c063e9e2b5749a5fcbe30cc00412f8d377f86ff", func := "loop.example/cuttingplanes/laws.FnExactSolvesModel", spec := "fnExactSolvesModel", unfollowed := true, recurses := true, apart := false }
def FnExactSolvesModelSaid : Prop := fnExactSolvesModelRow.holds Try.pinned (OpenSpec.ofChange fnExactSolvesModelSpec)

/-- ITS FALSE NEIGHBOUR: 'it returns false'. Refute it at one input. -/
def fnExactSolvesModelWrong : ChangeSpec := { name := "fnExactSolvesModel", fn := fun _ => fun
  | [d1, d2] => { results := [.lit (.bool false)], args := [d1, d2] }
  | _ => none }
def FnExactSolvesModelWrongFalsely : Prop := fnExactSolvesModelRow.holds Try.pinned (OpenSpec.ofChange fnExactSolvesModelWrong)

/-- 'laws.FnExactDecodeValues': WHATEVER THE INPUT: true; the input reads as it did. -/
def fnExactDecodeValuesSpec : ChangeSpec := { name := "fnExactDecodeValues", fn := fun _ => fun
  | [d1, d2] => { results := [.lit (.bool true)], args := [d1, d2] }
  | _ => none }
def fnExactDecodeValuesRow : OpenClaim := { program := "yteojddfaiomfmaa", sum := "736f0b9e17bb976d8838b58d9c063e9e2b5749a5fcbe30cc00412f8d377f86ff", func := "loop.example/cuttingplanes/laws.FnExactDecodeValues", spec := "fnExactDecodeValues", unfollowed := true, recurses := true, apart := false }
def FnExactDecodeValuesSaid : Prop := fnExactDecodeValuesRow.holds Try.pinned (OpenSpec.ofChange fnExactDecodeValuesSpec)

/-- ITS FALSE NEIGHBOUR: 'it returns false'. Refute it at one input. -/
def fnExactDecodeValuesWrong : ChangeSpec := { name := "fnExactDecodeValues", fn := fun _ => fun
  | [d1, d2] => { results := [.lit (.bool false)], args := [d1, d2] }
  | _ => none }
def FnExactDecodeValuesWrongFalsely : Prop := fnExactDecodeValuesRow.holds Try.pinned (OpenSpec.ofChange fnExactDecodeValuesWrong)

/-- 'laws.FnExactCountModel': WHATEVER THE INPUT: true; the input reads as it did. -/
def fnExactCountModelSpec : ChangeSpec := { name := "fnExactCountModel", fn := fun _ => fun
  | [d] => { results := [.lit (.bool true)], args := [d] }
  | _ => none }
def fnExactCountModelRow : OpenClaim := { program := "yteojddfaiomfmaa", sum := "736f0b9e17bb976d8838b58d9c063e9e2b5749a5fcbe30cc00412f8d377f86ff", func := "loop.example/cuttingplanes/laws.FnExactCountModel", spec := "fnExactCountModel", unfollowed := true, recurses := true, apart := false }
def FnExactCountModelSaid : Prop := fnExactCountModelRow.holds Try.pinned (OpenSpec.ofChange fnExactCountModelSpec)

/-- ITS FALSE NEIGHBOUR: 'it returns false'. Refute it at one input. -/
def fnExactCountModelWrong : ChangeSpec := { name := "fnExactCountModel", fn := fun _ => fun
  | [d] => { results := [.lit (.bool false)], args := [d] }
  | _ => none }
def FnExactCountModelWrongFalsely : Prop := fnExactCountModelRow.holds Try.pinned (OpenSpec.ofChange fnExactCountModelWrong)

/- THE SECOND FORM. 'bulk': how many values and letters a reading holds, each counted each time it is reached (what is shared counts as often as it is met; a slice's spare places count too). A statement '..UptoSaid' is the law's where the arguments, and the package variables that the reading takes, are together of bulk at most 1048576: NARROWER than '..Said'. Prove '..Said' where nothing that the law and all that it calls make is longer than what came in: it says more and counts as full. Else prove '..UptoSaid'. A law counts once. -/
mutual
def uptoBulk {H : Type} : DataW H → Nat
  | .lit (.string bytes) => bytes.length + 1
  | .lit _ => 1
  | .nil => 1
  | .ptr d => uptoBulk d + 1
  | .slice elems spare => uptoBulkAll elems + uptoBulkAll spare + 1
  | .agg parts => uptoBulkAll parts + 1
  | .iface _ d => uptoBulk d + 1
  | .map entries => uptoBulkEntries entries + 1
  | .held _ => 1
def uptoBulkAll {H : Type} : List (DataW H) → Nat
  | [] => 0
  | d :: r => uptoBulk d + uptoBulkAll r
def uptoBulkEntries {H : Type} : List (Lit × DataW H) → Nat
  | [] => 0
  | x :: r => uptoBulkEntry x + uptoBulkEntries r
def uptoBulkEntry {H : Type} : Lit × DataW H → Nat
  | (.string bytes, d) => bytes.length + uptoBulk d + 1
  | (_, d) => uptoBulk d + 1
 end
def uptoSmall : (H : Type) → List (DataW H) → Bool := fun _ ds => decide (uptoBulkAll ds ≤ 1048576)
def OpenSpec.upto (s : _root_.Go.ChangeSpec) : _root_.Go.OpenSpec := { _root_.Go.OpenSpec.ofChange s with cond := some uptoSmall }

/-- 'laws.FnExactBoolVar', WHERE WHAT IT READS IS OF BULK AT MOST 1048576: true; the input reads as it did. -/
def fnExactBoolVarUptoRow : OpenClaim := { program := "yteojddfaiomfmaa", sum := "736f0b9e17bb976d8838b58d9c063e9e2b5749a5fcbe30cc00412f8d377f86ff", func := "loop.example/cuttingplanes/laws.FnExactBoolVar", spec := "fnExactBoolVar", unfollowed := true, recurses := true, apart := false, narrowed := true }
def FnExactBoolVarUptoSaid : Prop := fnExactBoolVarUptoRow.holds Try.pinned (OpenSpec.upto fnExactBoolVarSpec)

/-- 'laws.FnExactFreeVars', WHERE WHAT IT READS IS OF BULK AT MOST 1048576: true; the input reads as it did. -/
def fnExactFreeVarsUptoRow : OpenClaim := { program := "yteojddfaiomfmaa", sum := "736f0b9e17bb976d8838b58d9c063e9e2b5749a5fcbe30cc00412f8d377f86ff", func := "loop.example/cuttingplanes/laws.FnExactFreeVars", spec := "fnExactFreeVars", unfollowed := true, recurses := true, apart := false, narrowed := true }
def FnExactFreeVarsUptoSaid : Prop := fnExactFreeVarsUptoRow.holds Try.pinned (OpenSpec.upto fnExactFreeVarsSpec)

/-- 'laws.FnExactDomainsValid', WHERE WHAT IT READS IS OF BULK AT MOST 1048576: true; the input reads as it did. -/
def fnExactDomainsValidUptoRow : OpenClaim := { program := "yteojddfaiomfmaa", sum := "736f0b9e17bb976d8838b58d9c063e9e2b5749a5fcbe30cc00412f8d377f86ff", func := "loop.example/cuttingplanes/laws.FnExactDomainsValid", spec := "fnExactDomainsValid", unfollowed := true, recurses := true, apart := false, narrowed := true }
def FnExactDomainsValidUptoSaid : Prop := fnExactDomainsValidUptoRow.holds Try.pinned (OpenSpec.upto fnExactDomainsValidSpec)

/-- 'laws.FnExactRuleHolds', WHERE WHAT IT READS IS OF BULK AT MOST 1048576: true; the input reads as it did. -/
def fnExactRuleHoldsUptoRow : OpenClaim := { program := "yteojddfaiomfmaa", sum := "736f0b9e17bb976d8838b58d9c063e9e2b5749a5fcbe30cc00412f8d377f86ff", func := "loop.example/cuttingplanes/laws.FnExactRuleHolds", spec := "fnExactRuleHolds", unfollowed := true, recurses := true, apart := false, narrowed := true }
def FnExactRuleHoldsUptoSaid : Prop := fnExactRuleHoldsUptoRow.holds Try.pinned (OpenSpec.upto fnExactRuleHoldsSpec)

/-- 'laws.FnExactEncodeCells', WHERE WHAT IT READS IS OF BULK AT MOST 1048576: true; the input reads as it did. -/
def fnExactEncodeCellsUptoRow : OpenClaim := { program := "yteojddfaiomfmaa", sum := "736f0b9e17bb976d8838b58d9c063e9e2b5749a5fcbe30cc00412f8d377f86ff", func := "loop.example/cuttingplanes/laws.FnExactEncodeCells", spec := "fnExactEncodeCells", unfollowed := true, recurses := true, apart := false, narrowed := true }
def FnExactEncodeCellsUptoSaid : Prop := fnExactEncodeCellsUptoRow.holds Try.pinned (OpenSpec.upto fnExactEncodeCellsSpec)

/-- 'laws.FnExactSolvesModel', WHERE WHAT IT READS IS OF BULK AT MOST 1048576: true; the input reads as it did. -/
def fnExactSolvesModelUptoRow : OpenClaim := { program := "yteojddfaiomfmaa", sum := "736f0b9e17bb976d8838b58d9c063e9e2b5749a5fcbe30cc00412f8d377f86ff", func := "loop.example/cuttingplanes/laws.FnExactSolvesModel", spec := "fnExactSolvesModel", unfollowed := true, recurses := true, apart := false, narrowed := true }
def FnExactSolvesModelUptoSaid : Prop := fnExactSolvesModelUptoRow.holds Try.pinned (OpenSpec.upto fnExactSolvesModelSpec)

/-- 'laws.FnExactDecodeValues', WHERE WHAT IT READS IS OF BULK AT MOST 1048576: true; the input reads as it did. -/
def fnExactDecodeValuesUptoRow : OpenClaim := { program := "yteojddfaiomfmaa", sum := "736f0b9e17bb976d8838b58d9c063e9e2b5749a5fcbe30cc00412f8d377f86ff", func := "loop.example/cuttingplanes/laws.FnExactDecodeValues", spec := "fnExactDecodeValues", unfollowed := true, recurses := true, apart := false, narrowed := true }
def FnExactDecodeValuesUptoSaid : Prop := fnExactDecodeValuesUptoRow.holds Try.pinned (OpenSpec.upto fnExactDecodeValuesSpec)

/-- 'laws.FnExactCountModel', WHERE WHAT IT READS IS OF BULK AT MOST 1048576: true; the input reads as it did. -/
def fnExactCountModelUptoRow : OpenClaim := { program := "yteojddfaiomfmaa", sum := "736f0b9e17bb976d8838b58d9c063e9e2b5749a5fcbe30cc00412f8d377f86ff", func := "loop.example/cuttingplanes/laws.FnExactCountModel", spec := "fnExactCountModel", unfollowed := true, recurses := true, apart := false, narrowed := true }
def FnExactCountModelUptoSaid : Prop := fnExactCountModelUptoRow.holds Try.pinned (OpenSpec.upto fnExactCountModelSpec)

end Rows
end Go.Proofs.Yteojddfaiomfmaa

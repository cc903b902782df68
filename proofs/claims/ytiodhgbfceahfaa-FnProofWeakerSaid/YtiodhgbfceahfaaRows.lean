/-
  No cell of these rows narrows 'for every input' (looked for: loops, veiled, ifaces, maps, wideKeys, modest, calm, conditions, laid).
  DERIVED. THE GIVEN ROWS OF THIS SEAT. 11 by the template 'for every input the law returns true; each argument reads behind the call as it read before'; 0 by the template 'total and deterministic' (their statements: YtiodhgbfceahfaaTotals.lean).
  GIVEN WITH THE SEED: the statements are not yours to turn. If you find one false, say at which input.
  Laid BY PROGRAM, IN A SANDBOX (cutbox-rows.mjs): the forced cells as the released guide's own fill.sh prints them over the translation 84c74953196a9707… (all of the seat's roots in one cut). By AI agents, Wed Nov 11 2026. No macro, syntax, notation, axiom, sorry.
-/
import Derived.Test.YtiodhgbfceahfaaChecked
import GoSem.Claim
import GoSem.ClaimJoined
import GoSem.ClaimMapViews
import Derived.JoinedTies
import Derived.KernelRfl
namespace Go.Proofs.Ytiodhgbfceahfaa
/- THE CELL 'sum', in the pinned program and in every row, IS THE sha256 OF THE DUMP (.gsa) THAT YtiodhgbfceahfaaProg.lean LOADS. Nothing in Lean hashes anything: it is a label: what it is worth is what the hold of that sum in a sandbox is worth. -/
noncomputable def Try.pinned : Pinned := { name := "ytiodhgbfceahfaa", sum := "84c74953196a97072869b01c58749ea5081b13467311d2bab1ef5479570269c6", checked := Try.checked }
namespace Rows
def none {H : Type} : Left H := { results := [], args := [] }

/-- 'laws.FnExactCheckRefutation': WHATEVER THE INPUT: true; the input reads as it did. -/
def fnExactCheckRefutationSpec : ChangeSpec := { name := "fnExactCheckRefutation", fn := fun _ => fun
  | [d1, d2] => { results := [.lit (.bool true)], args := [d1, d2] }
  | _ => none }
def fnExactCheckRefutationRow : OpenClaim := { program := "ytiodhgbfceahfaa", sum := "84c74953196a97072869b01c58749ea5081b13467311d2bab1ef5479570269c6", func := "loop.example/cuttingplanes/laws.FnExactCheckRefutation", spec := "fnExactCheckRefutation", unfollowed := true, recurses := true, apart := false }
def FnExactCheckRefutationSaid : Prop := fnExactCheckRefutationRow.holds Try.pinned (OpenSpec.ofChange fnExactCheckRefutationSpec)

/-- ITS FALSE NEIGHBOUR: 'it returns false'. Refute it at one input. -/
def fnExactCheckRefutationWrong : ChangeSpec := { name := "fnExactCheckRefutation", fn := fun _ => fun
  | [d1, d2] => { results := [.lit (.bool false)], args := [d1, d2] }
  | _ => none }
def FnExactCheckRefutationWrongFalsely : Prop := fnExactCheckRefutationRow.holds Try.pinned (OpenSpec.ofChange fnExactCheckRefutationWrong)

/-- 'laws.FnExactCheckDerivation': WHATEVER THE INPUT: true; the input reads as it did. -/
def fnExactCheckDerivationSpec : ChangeSpec := { name := "fnExactCheckDerivation", fn := fun _ => fun
  | [d1, d2, d3] => { results := [.lit (.bool true)], args := [d1, d2, d3] }
  | _ => none }
def fnExactCheckDerivationRow : OpenClaim := { program := "ytiodhgbfceahfaa", sum := "84c74953196a97072869b01c58749ea5081b13467311d2bab1ef5479570269c6", func := "loop.example/cuttingplanes/laws.FnExactCheckDerivation", spec := "fnExactCheckDerivation", unfollowed := true, recurses := true, apart := false }
def FnExactCheckDerivationSaid : Prop := fnExactCheckDerivationRow.holds Try.pinned (OpenSpec.ofChange fnExactCheckDerivationSpec)

/-- ITS FALSE NEIGHBOUR: 'it returns false'. Refute it at one input. -/
def fnExactCheckDerivationWrong : ChangeSpec := { name := "fnExactCheckDerivation", fn := fun _ => fun
  | [d1, d2, d3] => { results := [.lit (.bool false)], args := [d1, d2, d3] }
  | _ => none }
def FnExactCheckDerivationWrongFalsely : Prop := fnExactCheckDerivationRow.holds Try.pinned (OpenSpec.ofChange fnExactCheckDerivationWrong)

/-- 'laws.FnRupConstraint': WHATEVER THE INPUT: true; the input reads as it did. -/
def fnRupConstraintSpec : ChangeSpec := { name := "fnRupConstraint", fn := fun _ => fun
  | [d] => { results := [.lit (.bool true)], args := [d] }
  | _ => none }
def fnRupConstraintRow : OpenClaim := { program := "ytiodhgbfceahfaa", sum := "84c74953196a97072869b01c58749ea5081b13467311d2bab1ef5479570269c6", func := "loop.example/cuttingplanes/laws.FnRupConstraint", spec := "fnRupConstraint", unfollowed := true, recurses := true, apart := false }
def FnRupConstraintSaid : Prop := fnRupConstraintRow.holds Try.pinned (OpenSpec.ofChange fnRupConstraintSpec)

/-- ITS FALSE NEIGHBOUR: 'it returns false'. Refute it at one input. -/
def fnRupConstraintWrong : ChangeSpec := { name := "fnRupConstraint", fn := fun _ => fun
  | [d] => { results := [.lit (.bool false)], args := [d] }
  | _ => none }
def FnRupConstraintWrongFalsely : Prop := fnRupConstraintRow.holds Try.pinned (OpenSpec.ofChange fnRupConstraintWrong)

/-- 'laws.FnRunProof': WHATEVER THE INPUT: true; the input reads as it did. -/
def fnRunProofSpec : ChangeSpec := { name := "fnRunProof", fn := fun _ => fun
  | [d] => { results := [.lit (.bool true)], args := [d] }
  | _ => none }
def fnRunProofRow : OpenClaim := { program := "ytiodhgbfceahfaa", sum := "84c74953196a97072869b01c58749ea5081b13467311d2bab1ef5479570269c6", func := "loop.example/cuttingplanes/laws.FnRunProof", spec := "fnRunProof", unfollowed := true, recurses := true, apart := false }
def FnRunProofSaid : Prop := fnRunProofRow.holds Try.pinned (OpenSpec.ofChange fnRunProofSpec)

/-- ITS FALSE NEIGHBOUR: 'it returns false'. Refute it at one input. -/
def fnRunProofWrong : ChangeSpec := { name := "fnRunProof", fn := fun _ => fun
  | [d] => { results := [.lit (.bool false)], args := [d] }
  | _ => none }
def FnRunProofWrongFalsely : Prop := fnRunProofRow.holds Try.pinned (OpenSpec.ofChange fnRunProofWrong)

/-- 'laws.FnCheckRefutation': WHATEVER THE INPUT: true; the input reads as it did. -/
def fnCheckRefutationSpec : ChangeSpec := { name := "fnCheckRefutation", fn := fun _ => fun
  | [d] => { results := [.lit (.bool true)], args := [d] }
  | _ => none }
def fnCheckRefutationRow : OpenClaim := { program := "ytiodhgbfceahfaa", sum := "84c74953196a97072869b01c58749ea5081b13467311d2bab1ef5479570269c6", func := "loop.example/cuttingplanes/laws.FnCheckRefutation", spec := "fnCheckRefutation", unfollowed := true, recurses := true, apart := false }
def FnCheckRefutationSaid : Prop := fnCheckRefutationRow.holds Try.pinned (OpenSpec.ofChange fnCheckRefutationSpec)

/-- ITS FALSE NEIGHBOUR: 'it returns false'. Refute it at one input. -/
def fnCheckRefutationWrong : ChangeSpec := { name := "fnCheckRefutation", fn := fun _ => fun
  | [d] => { results := [.lit (.bool false)], args := [d] }
  | _ => none }
def FnCheckRefutationWrongFalsely : Prop := fnCheckRefutationRow.holds Try.pinned (OpenSpec.ofChange fnCheckRefutationWrong)

/-- 'laws.FnCheckDerivation': WHATEVER THE INPUT: true; the input reads as it did. -/
def fnCheckDerivationSpec : ChangeSpec := { name := "fnCheckDerivation", fn := fun _ => fun
  | [d] => { results := [.lit (.bool true)], args := [d] }
  | _ => none }
def fnCheckDerivationRow : OpenClaim := { program := "ytiodhgbfceahfaa", sum := "84c74953196a97072869b01c58749ea5081b13467311d2bab1ef5479570269c6", func := "loop.example/cuttingplanes/laws.FnCheckDerivation", spec := "fnCheckDerivation", unfollowed := true, recurses := true, apart := false }
def FnCheckDerivationSaid : Prop := fnCheckDerivationRow.holds Try.pinned (OpenSpec.ofChange fnCheckDerivationSpec)

/-- ITS FALSE NEIGHBOUR: 'it returns false'. Refute it at one input. -/
def fnCheckDerivationWrong : ChangeSpec := { name := "fnCheckDerivation", fn := fun _ => fun
  | [d] => { results := [.lit (.bool false)], args := [d] }
  | _ => none }
def FnCheckDerivationWrongFalsely : Prop := fnCheckDerivationRow.holds Try.pinned (OpenSpec.ofChange fnCheckDerivationWrong)

/-- 'laws.FnProofPrefix': WHATEVER THE INPUT: true; the input reads as it did. -/
def fnProofPrefixSpec : ChangeSpec := { name := "fnProofPrefix", fn := fun _ => fun
  | [d1, d2] => { results := [.lit (.bool true)], args := [d1, d2] }
  | _ => none }
def fnProofPrefixRow : OpenClaim := { program := "ytiodhgbfceahfaa", sum := "84c74953196a97072869b01c58749ea5081b13467311d2bab1ef5479570269c6", func := "loop.example/cuttingplanes/laws.FnProofPrefix", spec := "fnProofPrefix", unfollowed := true, recurses := true, apart := false }
def FnProofPrefixSaid : Prop := fnProofPrefixRow.holds Try.pinned (OpenSpec.ofChange fnProofPrefixSpec)

/-- ITS FALSE NEIGHBOUR: 'it returns false'. Refute it at one input. -/
def fnProofPrefixWrong : ChangeSpec := { name := "fnProofPrefix", fn := fun _ => fun
  | [d1, d2] => { results := [.lit (.bool false)], args := [d1, d2] }
  | _ => none }
def FnProofPrefixWrongFalsely : Prop := fnProofPrefixRow.holds Try.pinned (OpenSpec.ofChange fnProofPrefixWrong)

/-- 'laws.FnProofAppend': WHATEVER THE INPUT: true; the input reads as it did. -/
def fnProofAppendSpec : ChangeSpec := { name := "fnProofAppend", fn := fun _ => fun
  | [d1, d2] => { results := [.lit (.bool true)], args := [d1, d2] }
  | _ => none }
def fnProofAppendRow : OpenClaim := { program := "ytiodhgbfceahfaa", sum := "84c74953196a97072869b01c58749ea5081b13467311d2bab1ef5479570269c6", func := "loop.example/cuttingplanes/laws.FnProofAppend", spec := "fnProofAppend", unfollowed := true, recurses := true, apart := false }
def FnProofAppendSaid : Prop := fnProofAppendRow.holds Try.pinned (OpenSpec.ofChange fnProofAppendSpec)

/-- ITS FALSE NEIGHBOUR: 'it returns false'. Refute it at one input. -/
def fnProofAppendWrong : ChangeSpec := { name := "fnProofAppend", fn := fun _ => fun
  | [d1, d2] => { results := [.lit (.bool false)], args := [d1, d2] }
  | _ => none }
def FnProofAppendWrongFalsely : Prop := fnProofAppendRow.holds Try.pinned (OpenSpec.ofChange fnProofAppendWrong)

/-- 'laws.FnExactRunProof': WHATEVER THE INPUT: true; the input reads as it did. -/
def fnExactRunProofSpec : ChangeSpec := { name := "fnExactRunProof", fn := fun _ => fun
  | [d1, d2] => { results := [.lit (.bool true)], args := [d1, d2] }
  | _ => none }
def fnExactRunProofRow : OpenClaim := { program := "ytiodhgbfceahfaa", sum := "84c74953196a97072869b01c58749ea5081b13467311d2bab1ef5479570269c6", func := "loop.example/cuttingplanes/laws.FnExactRunProof", spec := "fnExactRunProof", unfollowed := true, recurses := true, apart := false }
def FnExactRunProofSaid : Prop := fnExactRunProofRow.holds Try.pinned (OpenSpec.ofChange fnExactRunProofSpec)

/-- ITS FALSE NEIGHBOUR: 'it returns false'. Refute it at one input. -/
def fnExactRunProofWrong : ChangeSpec := { name := "fnExactRunProof", fn := fun _ => fun
  | [d1, d2] => { results := [.lit (.bool false)], args := [d1, d2] }
  | _ => none }
def FnExactRunProofWrongFalsely : Prop := fnExactRunProofRow.holds Try.pinned (OpenSpec.ofChange fnExactRunProofWrong)

/-- 'laws.FnTrimProof': WHATEVER THE INPUT: true; the input reads as it did. -/
def fnTrimProofSpec : ChangeSpec := { name := "fnTrimProof", fn := fun _ => fun
  | [d] => { results := [.lit (.bool true)], args := [d] }
  | _ => none }
def fnTrimProofRow : OpenClaim := { program := "ytiodhgbfceahfaa", sum := "84c74953196a97072869b01c58749ea5081b13467311d2bab1ef5479570269c6", func := "loop.example/cuttingplanes/laws.FnTrimProof", spec := "fnTrimProof", unfollowed := true, recurses := true, apart := false }
def FnTrimProofSaid : Prop := fnTrimProofRow.holds Try.pinned (OpenSpec.ofChange fnTrimProofSpec)

/-- ITS FALSE NEIGHBOUR: 'it returns false'. Refute it at one input. -/
def fnTrimProofWrong : ChangeSpec := { name := "fnTrimProof", fn := fun _ => fun
  | [d] => { results := [.lit (.bool false)], args := [d] }
  | _ => none }
def FnTrimProofWrongFalsely : Prop := fnTrimProofRow.holds Try.pinned (OpenSpec.ofChange fnTrimProofWrong)

/-- 'laws.FnProofWeaker': WHATEVER THE INPUT: true; the input reads as it did. -/
def fnProofWeakerSpec : ChangeSpec := { name := "fnProofWeaker", fn := fun _ => fun
  | [d1, d2] => { results := [.lit (.bool true)], args := [d1, d2] }
  | _ => none }
def fnProofWeakerRow : OpenClaim := { program := "ytiodhgbfceahfaa", sum := "84c74953196a97072869b01c58749ea5081b13467311d2bab1ef5479570269c6", func := "loop.example/cuttingplanes/laws.FnProofWeaker", spec := "fnProofWeaker", unfollowed := true, recurses := true, apart := false }
def FnProofWeakerSaid : Prop := fnProofWeakerRow.holds Try.pinned (OpenSpec.ofChange fnProofWeakerSpec)

/-- ITS FALSE NEIGHBOUR: 'it returns false'. Refute it at one input. -/
def fnProofWeakerWrong : ChangeSpec := { name := "fnProofWeaker", fn := fun _ => fun
  | [d1, d2] => { results := [.lit (.bool false)], args := [d1, d2] }
  | _ => none }
def FnProofWeakerWrongFalsely : Prop := fnProofWeakerRow.holds Try.pinned (OpenSpec.ofChange fnProofWeakerWrong)

/- THE SECOND FORM. 'bulk': how many values and letters a reading holds, each counted each time it is reached (what is shared counts as often as it is met; a slice's spare places count too). A statement '..UptoSaid' is the law's where the arguments, and the package variables that the reading takes, are together of bulk at most 1048576: NARROWER than '..Said'. Prove '..Said' where nothing that the law and all that it calls make is longer than what came in: it says more and counts as full. Else prove '..UptoSaid'. A law counts once. -/
mutual
def uptoBulk {H : Type} : DataW H → Nat
  | .lit (.string bytes) => bytes.length + 1
  | .lit _ => 1
  | .nil => 1
  | .ptr d => uptoBulk d + 1
  | .slice elems spare => uptoBulkAll elems + uptoBulkAll spare + 1
  | .agg parts => uptoBulkAll parts + 1
  | .iface _ d => uptoBulk d + 1
  | .map entries => uptoBulkEntries entries + 1
  | .held _ => 1
def uptoBulkAll {H : Type} : List (DataW H) → Nat
  | [] => 0
  | d :: r => uptoBulk d + uptoBulkAll r
def uptoBulkEntries {H : Type} : List (Lit × DataW H) → Nat
  | [] => 0
  | x :: r => uptoBulkEntry x + uptoBulkEntries r
def uptoBulkEntry {H : Type} : Lit × DataW H → Nat
  | (.string bytes, d) => bytes.length + uptoBulk d + 1
  | (_, d) => uptoBulk d + 1
 end
def uptoSmall : (H : Type) → List (DataW H) → Bool := fun _ ds => decide (uptoBulkAll ds ≤ 1048576)
def OpenSpec.upto (s : _root_.Go.ChangeSpec) : _root_.Go.OpenSpec := { _root_.Go.OpenSpec.ofChange s with cond := some uptoSmall }

/-- 'laws.FnExactCheckRefutation', WHERE WHAT IT READS IS OF BULK AT MOST 1048576: true; the input reads as it did. -/
def fnExactCheckRefutationUptoRow : OpenClaim := { program := "ytiodhgbfceahfaa", sum := "84c74953196a97072869b01c58749ea5081b13467311d2bab1ef5479570269c6", func := "loop.example/cuttingplanes/laws.FnExactCheckRefutation", spec := "fnExactCheckRefutation", unfollowed := true, recurses := true, apart := false, narrowed := true }
def FnExactCheckRefutationUptoSaid : Prop := fnExactCheckRefutationUptoRow.holds Try.pinned (OpenSpec.upto fnExactCheckRefutationSpec)

/-- 'laws.FnExactCheckDerivation', WHERE WHAT IT READS IS OF BULK AT MOST 1048576: true; the input reads as it did. -/
def fnExactCheckDerivationUptoRow : OpenClaim := { program := "ytiodhgbfceahfaa", sum := "84c74953196a97072869b01c58749ea5081b13467311d2bab1ef5479570269c6", func := "loop.example/cuttingplanes/laws.FnExactCheckDerivation", spec := "fnExactCheckDerivation", unfollowed := true, recurses := true, apart := false, narrowed := true }
def FnExactCheckDerivationUptoSaid : Prop := fnExactCheckDerivationUptoRow.holds Try.pinned (OpenSpec.upto fnExactCheckDerivationSpec)

/-- 'laws.FnRupConstraint', WHERE WHAT IT READS IS OF BULK AT MOST 1048576: true; the input reads as it did. -/
def fnRupConstraintUptoRow : OpenClaim := { program := "ytiodhgbfceahfaa", sum := "84c74953196a97072869b01c58749ea5081b13467311d2bab1ef5479570269c6", func := "loop.example/cuttingplanes/laws.FnRupConstraint", spec := "fnRupConstraint", unfollowed := true, recurses := true, apart := false, narrowed := true }
def FnRupConstraintUptoSaid : Prop := fnRupConstraintUptoRow.holds Try.pinned (OpenSpec.upto fnRupConstraintSpec)

/-- 'laws.FnRunProof', WHERE WHAT IT READS IS OF BULK AT MOST 1048576: true; the input reads as it did. -/
def fnRunProofUptoRow : OpenClaim := { program := "ytiodhgbfceahfaa", sum := "84c74953196a97072869b01c58749ea5081b13467311d2bab1ef5479570269c6", func := "loop.example/cuttingplanes/laws.FnRunProof", spec := "fnRunProof", unfollowed := true, recurses := true, apart := false, narrowed := true }
def FnRunProofUptoSaid : Prop := fnRunProofUptoRow.holds Try.pinned (OpenSpec.upto fnRunProofSpec)

/-- 'laws.FnCheckRefutation', WHERE WHAT IT READS IS OF BULK AT MOST 1048576: true; the input reads as it did. -/
def fnCheckRefutationUptoRow : OpenClaim := { program := "ytiodhgbfceahfaa", sum := "84c74953196a97072869b01c58749ea5081b13467311d2bab1ef5479570269c6", func := "loop.example/cuttingplanes/laws.FnCheckRefutation", spec := "fnCheckRefutation", unfollowed := true, recurses := true, apart := false, narrowed := true }
def FnCheckRefutationUptoSaid : Prop := fnCheckRefutationUptoRow.holds Try.pinned (OpenSpec.upto fnCheckRefutationSpec)

/-- 'laws.FnCheckDerivation', WHERE WHAT IT READS IS OF BULK AT MOST 1048576: true; the input reads as it did. -/
def fnCheckDerivationUptoRow : OpenClaim := { program := "ytiodhgbfceahfaa", sum := "84c74953196a97072869b01c58749ea5081b13467311d2bab1ef5479570269c6", func := "loop.example/cuttingplanes/laws.FnCheckDerivation", spec := "fnCheckDerivation", unfollowed := true, recurses := true, apart := false, narrowed := true }
def FnCheckDerivationUptoSaid : Prop := fnCheckDerivationUptoRow.holds Try.pinned (OpenSpec.upto fnCheckDerivationSpec)

/-- 'laws.FnProofPrefix', WHERE WHAT IT READS IS OF BULK AT MOST 1048576: true; the input reads as it did. -/
def fnProofPrefixUptoRow : OpenClaim := { program := "ytiodhgbfceahfaa", sum := "84c74953196a97072869b01c58749ea5081b13467311d2bab1ef5479570269c6", func := "loop.example/cuttingplanes/laws.FnProofPrefix", spec := "fnProofPrefix", unfollowed := true, recurses := true, apart := false, narrowed := true }
def FnProofPrefixUptoSaid : Prop := fnProofPrefixUptoRow.holds Try.pinned (OpenSpec.upto fnProofPrefixSpec)

/-- 'laws.FnProofAppend', WHERE WHAT IT READS IS OF BULK AT MOST 1048576: true; the input reads as it did. -/
def fnProofAppendUptoRow : OpenClaim := { program := "ytiodhgbfceahfaa", sum := "84c74953196a97072869b01c58749ea5081b13467311d2bab1ef5479570269c6", func := "loop.example/cuttingplanes/laws.FnProofAppend", spec := "fnProofAppend", unfollowed := true, recurses := true, apart := false, narrowed := true }
def FnProofAppendUptoSaid : Prop := fnProofAppendUptoRow.holds Try.pinned (OpenSpec.upto fnProofAppendSpec)

/-- 'laws.FnExactRunProof', WHERE WHAT IT READS IS OF BULK AT MOST 1048576: true; the input reads as it did. -/
def fnExactRunProofUptoRow : OpenClaim := { program := "ytiodhgbfceahfaa", sum := "84c74953196a97072869b01c58749ea5081b13467311d2bab1ef5479570269c6", func := "loop.example/cuttingplanes/laws.FnExactRunProof", spec := "fnExactRunProof", unfollowed := true, recurses := true, apart := false, narrowed := true }
def FnExactRunProofUptoSaid : Prop := fnExactRunProofUptoRow.holds Try.pinned (OpenSpec.upto fnExactRunProofSpec)

/-- 'laws.FnTrimProof', WHERE WHAT IT READS IS OF BULK AT MOST 1048576: true; the input reads as it did. -/
def fnTrimProofUptoRow : OpenClaim := { program := "ytiodhgbfceahfaa", sum := "84c74953196a97072869b01c58749ea5081b13467311d2bab1ef5479570269c6", func := "loop.example/cuttingplanes/laws.FnTrimProof", spec := "fnTrimProof", unfollowed := true, recurses := true, apart := false, narrowed := true }
def FnTrimProofUptoSaid : Prop := fnTrimProofUptoRow.holds Try.pinned (OpenSpec.upto fnTrimProofSpec)

/-- 'laws.FnProofWeaker', WHERE WHAT IT READS IS OF BULK AT MOST 1048576: true; the input reads as it did. -/
def fnProofWeakerUptoRow : OpenClaim := { program := "ytiodhgbfceahfaa", sum := "84c74953196a97072869b01c58749ea5081b13467311d2bab1ef5479570269c6", func := "loop.example/cuttingplanes/laws.FnProofWeaker", spec := "fnProofWeaker", unfollowed := true, recurses := true, apart := false, narrowed := true }
def FnProofWeakerUptoSaid : Prop := fnProofWeakerUptoRow.holds Try.pinned (OpenSpec.upto fnProofWeakerSpec)

end Rows
end Go.Proofs.Ytiodhgbfceahfaa

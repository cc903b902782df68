/-
  No cell of these rows narrows 'for every input' (looked for: loops, veiled, ifaces, maps, wideKeys, modest, calm, conditions, laid).
  DERIVED. THE GIVEN ROWS OF THIS SEAT. 10 by the template 'for every input the law returns true; each argument reads behind the call as it read before'; 0 by the template 'total and deterministic' (their statements: YteeilbddjlpiaaaTotals.lean).
  GIVEN WITH THE SEED: the statements are not yours to turn. If you find one false, say at which input.
  Laid BY PROGRAM, IN A SANDBOX (cutbox-rows.mjs): the forced cells as the released guide's own fill.sh prints them over the translation b3c2cad67e805cd0… (all of the seat's roots in one cut). By AI agents, Wed Nov 11 2026. No macro, syntax, notation, axiom, sorry.
-/
import Derived.Test.YteeilbddjlpiaaaChecked
import GoSem.Claim
import GoSem.ClaimJoined
import GoSem.ClaimMapViews
import Derived.JoinedTies
import Derived.KernelRfl
namespace Go.Proofs.Yteeilbddjlpiaaa
/- THE CELL 'sum', in the pinned program and in every row, IS THE sha256 OF THE DUMP (.gsa) THAT YteeilbddjlpiaaaProg.lean LOADS. Nothing in Lean hashes anything: it is a label: what it is worth is what the hold of that sum in a sandbox is worth. -/
noncomputable def Try.pinned : Pinned := { name := "yteeilbddjlpiaaa", sum := "b3c2cad67e805cd0f17f290159d2ee26e0d7c4b1df228b5baff3e9f55037f630", checked := Try.checked }
namespace Rows
def none {H : Type} : Left H := { results := [], args := [] }

/-- 'laws.FnNextLast': WHATEVER THE INPUT: true; the input reads as it did. -/
def fnNextLastSpec : ChangeSpec := { name := "fnNextLast", fn := fun _ => fun
  | [d] => { results := [.lit (.bool true)], args := [d] }
  | _ => none }
def fnNextLastRow : OpenClaim := { program := "yteeilbddjlpiaaa", sum := "b3c2cad67e805cd0f17f290159d2ee26e0d7c4b1df228b5baff3e9f55037f630", func := "loop.example/cuttingplanes/laws.FnNextLast", spec := "fnNextLast", unfollowed := true, recurses := true, apart := false }
def FnNextLastSaid : Prop := fnNextLastRow.holds Try.pinned (OpenSpec.ofChange fnNextLastSpec)

/-- ITS FALSE NEIGHBOUR: 'it returns false'. Refute it at one input. -/
def fnNextLastWrong : ChangeSpec := { name := "fnNextLast", fn := fun _ => fun
  | [d] => { results := [.lit (.bool false)], args := [d] }
  | _ => none }
def FnNextLastWrongFalsely : Prop := fnNextLastRow.holds Try.pinned (OpenSpec.ofChange fnNextLastWrong)

/-- 'laws.FnSolveFuel': WHATEVER THE INPUT: true; the input reads as it did. -/
def fnSolveFuelSpec : ChangeSpec := { name := "fnSolveFuel", fn := fun _ => fun
  | [d1, d2] => { results := [.lit (.bool true)], args := [d1, d2] }
  | _ => none }
def fnSolveFuelRow : OpenClaim := { program := "yteeilbddjlpiaaa", sum := "b3c2cad67e805cd0f17f290159d2ee26e0d7c4b1df228b5baff3e9f55037f630", func := "loop.example/cuttingplanes/laws.FnSolveFuel", spec := "fnSolveFuel", unfollowed := true, recurses := true, apart := false }
def FnSolveFuelSaid : Prop := fnSolveFuelRow.holds Try.pinned (OpenSpec.ofChange fnSolveFuelSpec)

/-- ITS FALSE NEIGHBOUR: 'it returns false'. Refute it at one input. -/
def fnSolveFuelWrong : ChangeSpec := { name := "fnSolveFuel", fn := fun _ => fun
  | [d1, d2] => { results := [.lit (.bool false)], args := [d1, d2] }
  | _ => none }
def FnSolveFuelWrongFalsely : Prop := fnSolveFuelRow.holds Try.pinned (OpenSpec.ofChange fnSolveFuelWrong)

/-- 'laws.FnSolveFirst': WHATEVER THE INPUT: true; the input reads as it did. -/
def fnSolveFirstSpec : ChangeSpec := { name := "fnSolveFirst", fn := fun _ => fun
  | [d] => { results := [.lit (.bool true)], args := [d] }
  | _ => none }
def fnSolveFirstRow : OpenClaim := { program := "yteeilbddjlpiaaa", sum := "b3c2cad67e805cd0f17f290159d2ee26e0d7c4b1df228b5baff3e9f55037f630", func := "loop.example/cuttingplanes/laws.FnSolveFirst", spec := "fnSolveFirst", unfollowed := true, recurses := true, apart := false }
def FnSolveFirstSaid : Prop := fnSolveFirstRow.holds Try.pinned (OpenSpec.ofChange fnSolveFirstSpec)

/-- ITS FALSE NEIGHBOUR: 'it returns false'. Refute it at one input. -/
def fnSolveFirstWrong : ChangeSpec := { name := "fnSolveFirst", fn := fun _ => fun
  | [d] => { results := [.lit (.bool false)], args := [d] }
  | _ => none }
def FnSolveFirstWrongFalsely : Prop := fnSolveFirstRow.holds Try.pinned (OpenSpec.ofChange fnSolveFirstWrong)

/-- 'laws.FnSolveCount': WHATEVER THE INPUT: true; the input reads as it did. -/
def fnSolveCountSpec : ChangeSpec := { name := "fnSolveCount", fn := fun _ => fun
  | [d] => { results := [.lit (.bool true)], args := [d] }
  | _ => none }
def fnSolveCountRow : OpenClaim := { program := "yteeilbddjlpiaaa", sum := "b3c2cad67e805cd0f17f290159d2ee26e0d7c4b1df228b5baff3e9f55037f630", func := "loop.example/cuttingplanes/laws.FnSolveCount", spec := "fnSolveCount", unfollowed := true, recurses := true, apart := false }
def FnSolveCountSaid : Prop := fnSolveCountRow.holds Try.pinned (OpenSpec.ofChange fnSolveCountSpec)

/-- ITS FALSE NEIGHBOUR: 'it returns false'. Refute it at one input. -/
def fnSolveCountWrong : ChangeSpec := { name := "fnSolveCount", fn := fun _ => fun
  | [d] => { results := [.lit (.bool false)], args := [d] }
  | _ => none }
def FnSolveCountWrongFalsely : Prop := fnSolveCountRow.holds Try.pinned (OpenSpec.ofChange fnSolveCountWrong)

/-- 'laws.FnProveSelf': WHATEVER THE INPUT: true; the input reads as it did. -/
def fnProveSelfSpec : ChangeSpec := { name := "fnProveSelf", fn := fun _ => fun
  | [d1, d2] => { results := [.lit (.bool true)], args := [d1, d2] }
  | _ => none }
def fnProveSelfRow : OpenClaim := { program := "yteeilbddjlpiaaa", sum := "b3c2cad67e805cd0f17f290159d2ee26e0d7c4b1df228b5baff3e9f55037f630", func := "loop.example/cuttingplanes/laws.FnProveSelf", spec := "fnProveSelf", unfollowed := true, recurses := true, apart := false }
def FnProveSelfSaid : Prop := fnProveSelfRow.holds Try.pinned (OpenSpec.ofChange fnProveSelfSpec)

/-- ITS FALSE NEIGHBOUR: 'it returns false'. Refute it at one input. -/
def fnProveSelfWrong : ChangeSpec := { name := "fnProveSelf", fn := fun _ => fun
  | [d1, d2] => { results := [.lit (.bool false)], args := [d1, d2] }
  | _ => none }
def FnProveSelfWrongFalsely : Prop := fnProveSelfRow.holds Try.pinned (OpenSpec.ofChange fnProveSelfWrong)

/-- 'laws.FnExactSolveProblem': WHATEVER THE INPUT: true; the input reads as it did. -/
def fnExactSolveProblemSpec : ChangeSpec := { name := "fnExactSolveProblem", fn := fun _ => fun
  | [d1, d2] => { results := [.lit (.bool true)], args := [d1, d2] }
  | _ => none }
def fnExactSolveProblemRow : OpenClaim := { program := "yteeilbddjlpiaaa", sum := "b3c2cad67e805cd0f17f290159d2ee26e0d7c4b1df228b5baff3e9f55037f630", func := "loop.example/cuttingplanes/laws.FnExactSolveProblem", spec := "fnExactSolveProblem", unfollowed := true, recurses := true, apart := false }
def FnExactSolveProblemSaid : Prop := fnExactSolveProblemRow.holds Try.pinned (OpenSpec.ofChange fnExactSolveProblemSpec)

/-- ITS FALSE NEIGHBOUR: 'it returns false'. Refute it at one input. -/
def fnExactSolveProblemWrong : ChangeSpec := { name := "fnExactSolveProblem", fn := fun _ => fun
  | [d1, d2] => { results := [.lit (.bool false)], args := [d1, d2] }
  | _ => none }
def FnExactSolveProblemWrongFalsely : Prop := fnExactSolveProblemRow.holds Try.pinned (OpenSpec.ofChange fnExactSolveProblemWrong)

/-- 'laws.FnProveConstraint': WHATEVER THE INPUT: true; the input reads as it did. -/
def fnProveConstraintSpec : ChangeSpec := { name := "fnProveConstraint", fn := fun _ => fun
  | [d] => { results := [.lit (.bool true)], args := [d] }
  | _ => none }
def fnProveConstraintRow : OpenClaim := { program := "yteeilbddjlpiaaa", sum := "b3c2cad67e805cd0f17f290159d2ee26e0d7c4b1df228b5baff3e9f55037f630", func := "loop.example/cuttingplanes/laws.FnProveConstraint", spec := "fnProveConstraint", unfollowed := true, recurses := true, apart := false }
def FnProveConstraintSaid : Prop := fnProveConstraintRow.holds Try.pinned (OpenSpec.ofChange fnProveConstraintSpec)

/-- ITS FALSE NEIGHBOUR: 'it returns false'. Refute it at one input. -/
def fnProveConstraintWrong : ChangeSpec := { name := "fnProveConstraint", fn := fun _ => fun
  | [d] => { results := [.lit (.bool false)], args := [d] }
  | _ => none }
def FnProveConstraintWrongFalsely : Prop := fnProveConstraintRow.holds Try.pinned (OpenSpec.ofChange fnProveConstraintWrong)

/-- 'laws.FnExactProveConstraint': WHATEVER THE INPUT: true; the input reads as it did. -/
def fnExactProveConstraintSpec : ChangeSpec := { name := "fnExactProveConstraint", fn := fun _ => fun
  | [d1, d2, d3] => { results := [.lit (.bool true)], args := [d1, d2, d3] }
  | _ => none }
def fnExactProveConstraintRow : OpenClaim := { program := "yteeilbddjlpiaaa", sum := "b3c2cad67e805cd0f17f290159d2ee26e0d7c4b1df228b5baff3e9f55037f630", func := "loop.example/cuttingplanes/laws.FnExactProveConstraint", spec := "fnExactProveConstraint", unfollowed := true, recurses := true, apart := false }
def FnExactProveConstraintSaid : Prop := fnExactProveConstraintRow.holds Try.pinned (OpenSpec.ofChange fnExactProveConstraintSpec)

/-- ITS FALSE NEIGHBOUR: 'it returns false'. Refute it at one input. -/
def fnExactProveConstraintWrong : ChangeSpec := { name := "fnExactProveConstraint", fn := fun _ => fun
  | [d1, d2, d3] => { results := [.lit (.bool false)], args := [d1, d2, d3] }
  | _ => none }
def FnExactProveConstraintWrongFalsely : Prop := fnExactProveConstraintRow.holds Try.pinned (OpenSpec.ofChange fnExactProveConstraintWrong)

/-- 'laws.FnResolve': WHATEVER THE INPUT: true; the input reads as it did. -/
def fnResolveSpec : ChangeSpec := { name := "fnResolve", fn := fun _ => fun
  | [d] => { results := [.lit (.bool true)], args := [d] }
  | _ => none }
def fnResolveRow : OpenClaim := { program := "yteeilbddjlpiaaa", sum := "b3c2cad67e805cd0f17f290159d2ee26e0d7c4b1df228b5baff3e9f55037f630", func := "loop.example/cuttingplanes/laws.FnResolve", spec := "fnResolve", unfollowed := true, recurses := true, apart := false }
def FnResolveSaid : Prop := fnResolveRow.holds Try.pinned (OpenSpec.ofChange fnResolveSpec)

/-- ITS FALSE NEIGHBOUR: 'it returns false'. Refute it at one input. -/
def fnResolveWrong : ChangeSpec := { name := "fnResolve", fn := fun _ => fun
  | [d] => { results := [.lit (.bool false)], args := [d] }
  | _ => none }
def FnResolveWrongFalsely : Prop := fnResolveRow.holds Try.pinned (OpenSpec.ofChange fnResolveWrong)

/-- 'laws.FnClauseOf': WHATEVER THE INPUT: true; the input reads as it did. -/
def fnClauseOfSpec : ChangeSpec := { name := "fnClauseOf", fn := fun _ => fun
  | [d1, d2] => { results := [.lit (.bool true)], args := [d1, d2] }
  | _ => none }
def fnClauseOfRow : OpenClaim := { program := "yteeilbddjlpiaaa", sum := "b3c2cad67e805cd0f17f290159d2ee26e0d7c4b1df228b5baff3e9f55037f630", func := "loop.example/cuttingplanes/laws.FnClauseOf", spec := "fnClauseOf", unfollowed := true, recurses := true, apart := false }
def FnClauseOfSaid : Prop := fnClauseOfRow.holds Try.pinned (OpenSpec.ofChange fnClauseOfSpec)

/-- ITS FALSE NEIGHBOUR: 'it returns false'. Refute it at one input. -/
def fnClauseOfWrong : ChangeSpec := { name := "fnClauseOf", fn := fun _ => fun
  | [d1, d2] => { results := [.lit (.bool false)], args := [d1, d2] }
  | _ => none }
def FnClauseOfWrongFalsely : Prop := fnClauseOfRow.holds Try.pinned (OpenSpec.ofChange fnClauseOfWrong)

/- THE SECOND FORM. 'bulk': how many values and letters a reading holds, each counted each time it is reached (what is shared counts as often as it is met; a slice's spare places count too). A statement '..UptoSaid' is the law's where the arguments, and the package variables that the reading takes, are together of bulk at most 1048576: NARROWER than '..Said'. Prove '..Said' where nothing that the law and all that it calls make is longer than what came in: it says more and counts as full. Else prove '..UptoSaid'. A law counts once. -/
mutual
def uptoBulk {H : Type} : DataW H → Nat
  | .lit (.string bytes) => bytes.length + 1
  | .lit _ => 1
  | .nil => 1
  | .ptr d => uptoBulk d + 1
  | .slice elems spare => uptoBulkAll elems + uptoBulkAll spare + 1
  | .agg parts => uptoBulkAll parts + 1
  | .iface _ d => uptoBulk d + 1
  | .map entries => uptoBulkEntries entries + 1
  | .held _ => 1
def uptoBulkAll {H : Type} : List (DataW H) → Nat
  | [] => 0
  | d :: r => uptoBulk d + uptoBulkAll r
def uptoBulkEntries {H : Type} : List (Lit × DataW H) → Nat
  | [] => 0
  | x :: r => uptoBulkEntry x + uptoBulkEntries r
def uptoBulkEntry {H : Type} : Lit × DataW H → Nat
  | (.string bytes, d) => bytes.length + uptoBulk d + 1
  | (_, d) => uptoBulk d + 1
 end
def uptoSmall : (H : Type) → List (DataW H) → Bool := fun _ ds => decide (uptoBulkAll ds ≤ 1048576)
def OpenSpec.upto (s : _root_.Go.ChangeSpec) : _root_.Go.OpenSpec := { _root_.Go.OpenSpec.ofChange s with cond := some uptoSmall }

/-- 'laws.FnNextLast', WHERE WHAT IT READS IS OF BULK AT MOST 1048576: true; the input reads as it did. -/
def fnNextLastUptoRow : OpenClaim := { program := "yteeilbddjlpiaaa", sum := "b3c2cad67e805cd0f17f290159d2ee26e0d7c4b1df228b5baff3e9f55037f630", func := "loop.example/cuttingplanes/laws.FnNextLast", spec := "fnNextLast", unfollowed := true, recurses := true, apart := false, narrowed := true }
def FnNextLastUptoSaid : Prop := fnNextLastUptoRow.holds Try.pinned (OpenSpec.upto fnNextLastSpec)

/-- 'laws.FnSolveFuel', WHERE WHAT IT READS IS OF BULK AT MOST 1048576: true; the input reads as it did. -/
def fnSolveFuelUptoRow : OpenClaim := { program := "yteeilbddjlpiaaa", sum := "b3c2cad67e805cd0f17f290159d2ee26e0d7c4b1df228b5baff3e9f55037f630", func := "loop.example/cuttingplanes/laws.FnSolveFuel", spec := "fnSolveFuel", unfollowed := true, recurses := true, apart := false, narrowed := true }
def FnSolveFuelUptoSaid : Prop := fnSolveFuelUptoRow.holds Try.pinned (OpenSpec.upto fnSolveFuelSpec)

/-- 'laws.FnSolveFirst', WHERE WHAT IT READS IS OF BULK AT MOST 1048576: true; the input reads as it did. -/
def fnSolveFirstUptoRow : OpenClaim := { program := "yteeilbddjlpiaaa", sum := "b3c2cad67e805cd0f17f290159d2ee26e0d7c4b1df228b5baff3e9f55037f630", func := "loop.example/cuttingplanes/laws.FnSolveFirst", spec := "fnSolveFirst", unfollowed := true, recurses := true, apart := false, narrowed := true }
def FnSolveFirstUptoSaid : Prop := fnSolveFirstUptoRow.holds Try.pinned (OpenSpec.upto fnSolveFirstSpec)

/-- 'laws.FnSolveCount', WHERE WHAT IT READS IS OF BULK AT MOST 1048576: true; the input reads as it did. -/
def fnSolveCountUptoRow : OpenClaim := { program := "yteeilbddjlpiaaa", sum := "b3c2cad67e805cd0f17f290159d2ee26e0d7c4b1df228b5baff3e9f55037f630", func := "loop.example/cuttingplanes/laws.FnSolveCount", spec := "fnSolveCount", unfollowed := true, recurses := true, apart := false, narrowed := true }
def FnSolveCountUptoSaid : Prop := fnSolveCountUptoRow.holds Try.pinned (OpenSpec.upto fnSolveCountSpec)

/-- 'laws.FnProveSelf', WHERE WHAT IT READS IS OF BULK AT MOST 1048576: true; the input reads as it did. -/
def fnProveSelfUptoRow : OpenClaim := { program := "yteeilbddjlpiaaa", sum := "b3c2cad67e805cd0f17f290159d2ee26e0d7c4b1df228b5baff3e9f55037f630", func := "loop.example/cuttingplanes/laws.FnProveSelf", spec := "fnProveSelf", unfollowed := true, recurses := true, apart := false, narrowed := true }
def FnProveSelfUptoSaid : Prop := fnProveSelfUptoRow.holds Try.pinned (OpenSpec.upto fnProveSelfSpec)

/-- 'laws.FnExactSolveProblem', WHERE WHAT IT READS IS OF BULK AT MOST 1048576: true; the input reads as it did. -/
def fnExactSolveProblemUptoRow : OpenClaim := { program := "yteeilbddjlpiaaa", sum := "b3c2cad67e805cd0f17f290159d2ee26e0d7c4b1df228b5baff3e9f55037f630", func := "loop.example/cuttingplanes/laws.FnExactSolveProblem", spec := "fnExactSolveProblem", unfollowed := true, recurses := true, apart := false, narrowed := true }
def FnExactSolveProblemUptoSaid : Prop := fnExactSolveProblemUptoRow.holds Try.pinned (OpenSpec.upto fnExactSolveProblemSpec)

/-- 'laws.FnProveConstraint', WHERE WHAT IT READS IS OF BULK AT MOST 1048576: true; the input reads as it did. -/
def fnProveConstraintUptoRow : OpenClaim := { program := "yteeilbddjlpiaaa", sum := "b3c2cad67e805cd0f17f290159d2ee26e0d7c4b1df228b5baff3e9f55037f630", func := "loop.example/cuttingplanes/laws.FnProveConstraint", spec := "fnProveConstraint", unfollowed := true, recurses := true, apart := false, narrowed := true }
def FnProveConstraintUptoSaid : Prop := fnProveConstraintUptoRow.holds Try.pinned (OpenSpec.upto fnProveConstraintSpec)

/-- 'laws.FnExactProveConstraint', WHERE WHAT IT READS IS OF BULK AT MOST 1048576: true; the input reads as it did. -/
def fnExactProveConstraintUptoRow : OpenClaim := { program := "yteeilbddjlpiaaa", sum := "b3c2cad67e805cd0f17f290159d2ee26e0d7c4b1df228b5baff3e9f55037f630", func := "loop.example/cuttingplanes/laws.FnExactProveConstraint", spec := "fnExactProveConstraint", unfollowed := true, recurses := true, apart := false, narrowed := true }
def FnExactProveConstraintUptoSaid : Prop := fnExactProveConstraintUptoRow.holds Try.pinned (OpenSpec.upto fnExactProveConstraintSpec)

/-- 'laws.FnResolve', WHERE WHAT IT READS IS OF BULK AT MOST 1048576: true; the input reads as it did. -/
def fnResolveUptoRow : OpenClaim := { program := "yteeilbddjlpiaaa", sum := "b3c2cad67e805cd0f17f290159d2ee26e0d7c4b1df228b5baff3e9f55037f630", func := "loop.example/cuttingplanes/laws.FnResolve", spec := "fnResolve", unfollowed := true, recurses := true, apart := false, narrowed := true }
def FnResolveUptoSaid : Prop := fnResolveUptoRow.holds Try.pinned (OpenSpec.upto fnResolveSpec)

/-- 'laws.FnClauseOf', WHERE WHAT IT READS IS OF BULK AT MOST 1048576: true; the input reads as it did. -/
def fnClauseOfUptoRow : OpenClaim := { program := "yteeilbddjlpiaaa", sum := "b3c2cad67e805cd0f17f290159d2ee26e0d7c4b1df228b5baff3e9f55037f630", func := "loop.example/cuttingplanes/laws.FnClauseOf", spec := "fnClauseOf", unfollowed := true, recurses := true, apart := false, narrowed := true }
def FnClauseOfUptoSaid : Prop := fnClauseOfUptoRow.holds Try.pinned (OpenSpec.upto fnClauseOfSpec)

end Rows
end Go.Proofs.Yteeilbddjlpiaaa

/-
  No cell of these rows narrows 'for every input' (looked for: loops, veiled, ifaces, maps, wideKeys, modest, calm, conditions, laid).
  DERIVED. THE GIVEN ROWS OF THIS SEAT. 9 by the template 'for every input the law returns true; each argument reads behind the call as it read before'; 0 by the template 'total and deterministic' (their statements: YtbjllamkfmejlaaGreatTotals.lean).
  GIVEN WITH THE SEED: the statements are not yours to turn. If you find one false, say at which input.
  Laid BY PROGRAM, IN A SANDBOX (cutbox-rows.mjs): the forced cells as the released guide's own fill.sh prints them over the translation 5b7d527d56ef5d33… (all of the seat's roots in one cut). By AI agents, Wed Nov 11 2026. No macro, syntax, notation, axiom, sorry.
-/
import Derived.Test.YtbjllamkfmejlaaGreatChecked
import GoSem.Claim
import GoSem.ClaimJoined
import GoSem.ClaimMapViews
import Derived.JoinedTies
import Derived.KernelRfl
namespace Go.Proofs.YtbjllamkfmejlaaGreat
/- THE CELL 'sum', in the pinned program and in every row, IS THE sha256 OF THE DUMP (.gsa) THAT YtbjllamkfmejlaaGreatProg.lean LOADS. Nothing in Lean hashes anything: it is a label: what it is worth is what the hold of that sum in a sandbox is worth. -/
noncomputable def Tryz.pinned : Pinned := { name := "ytbjllamkfmejlaagreat", sum := "5b7d527d56ef5d3374a25b1fff8b743df5c1b9c57962094e5f3419c9bf372d57", checked := Tryz.checked }
namespace Rows
def none {H : Type} : Left H := { results := [], args := [] }

/-- 'laws.FnEncodeFilter': WHATEVER THE INPUT: true; the input reads as it did. -/
def fnEncodeFilterSpec : ChangeSpec := { name := "fnEncodeFilter", fn := fun _ => fun
  | [d] => { results := [.lit (.bool true)], args := [d] }
  | _ => none }
def fnEncodeFilterRow : OpenClaim := { program := "ytbjllamkfmejlaagreat", sum := "5b7d527d56ef5d3374a25b1fff8b743df5c1b9c57962094e5f3419c9bf372d57", func := "loop.example/cuttingplanes/laws.FnEncodeFilter", spec := "fnEncodeFilter", unfollowed := true, recurses := true, apart := false }
def FnEncodeFilterSaid : Prop := fnEncodeFilterRow.holds Tryz.pinned (OpenSpec.ofChange fnEncodeFilterSpec)

/-- ITS FALSE NEIGHBOUR: 'it returns false'. Refute it at one input. -/
def fnEncodeFilterWrong : ChangeSpec := { name := "fnEncodeFilter", fn := fun _ => fun
  | [d] => { results := [.lit (.bool false)], args := [d] }
  | _ => none }
def FnEncodeFilterWrongFalsely : Prop := fnEncodeFilterRow.holds Tryz.pinned (OpenSpec.ofChange fnEncodeFilterWrong)

/-- 'laws.FnEncodeSearch': WHATEVER THE INPUT: true; the input reads as it did. -/
def fnEncodeSearchSpec : ChangeSpec := { name := "fnEncodeSearch", fn := fun _ => fun
  | [d] => { results := [.lit (.bool true)], args := [d] }
  | _ => none }
def fnEncodeSearchRow : OpenClaim := { program := "ytbjllamkfmejlaagreat", sum := "5b7d527d56ef5d3374a25b1fff8b743df5c1b9c57962094e5f3419c9bf372d57", func := "loop.example/cuttingplanes/laws.FnEncodeSearch", spec := "fnEncodeSearch", unfollowed := true, recurses := true, apart := false }
def FnEncodeSearchSaid : Prop := fnEncodeSearchRow.holds Tryz.pinned (OpenSpec.ofChange fnEncodeSearchSpec)

/-- ITS FALSE NEIGHBOUR: 'it returns false'. Refute it at one input. -/
def fnEncodeSearchWrong : ChangeSpec := { name := "fnEncodeSearch", fn := fun _ => fun
  | [d] => { results := [.lit (.bool false)], args := [d] }
  | _ => none }
def FnEncodeSearchWrongFalsely : Prop := fnEncodeSearchRow.holds Tryz.pinned (OpenSpec.ofChange fnEncodeSearchWrong)

/-- 'laws.FnEncodeSolves': WHATEVER THE INPUT: true; the input reads as it did. -/
def fnEncodeSolvesSpec : ChangeSpec := { name := "fnEncodeSolves", fn := fun _ => fun
  | [d] => { results := [.lit (.bool true)], args := [d] }
  | _ => none }
def fnEncodeSolvesRow : OpenClaim := { program := "ytbjllamkfmejlaagreat", sum := "5b7d527d56ef5d3374a25b1fff8b743df5c1b9c57962094e5f3419c9bf372d57", func := "loop.example/cuttingplanes/laws.FnEncodeSolves", spec := "fnEncodeSolves", unfollowed := true, recurses := true, apart := false }
def FnEncodeSolvesSaid : Prop := fnEncodeSolvesRow.holds Tryz.pinned (OpenSpec.ofChange fnEncodeSolvesSpec)

/-- ITS FALSE NEIGHBOUR: 'it returns false'. Refute it at one input. -/
def fnEncodeSolvesWrong : ChangeSpec := { name := "fnEncodeSolves", fn := fun _ => fun
  | [d] => { results := [.lit (.bool false)], args := [d] }
  | _ => none }
def FnEncodeSolvesWrongFalsely : Prop := fnEncodeSolvesRow.holds Tryz.pinned (OpenSpec.ofChange fnEncodeSolvesWrong)

/-- 'laws.FnEncodeRule': WHATEVER THE INPUT: true; the input reads as it did. -/
def fnEncodeRuleSpec : ChangeSpec := { name := "fnEncodeRule", fn := fun _ => fun
  | [d] => { results := [.lit (.bool true)], args := [d] }
  | _ => none }
def fnEncodeRuleRow : OpenClaim := { program := "ytbjllamkfmejlaagreat", sum := "5b7d527d56ef5d3374a25b1fff8b743df5c1b9c57962094e5f3419c9bf372d57", func := "loop.example/cuttingplanes/laws.FnEncodeRule", spec := "fnEncodeRule", unfollowed := true, recurses := true, apart := false }
def FnEncodeRuleSaid : Prop := fnEncodeRuleRow.holds Tryz.pinned (OpenSpec.ofChange fnEncodeRuleSpec)

/-- ITS FALSE NEIGHBOUR: 'it returns false'. Refute it at one input. -/
def fnEncodeRuleWrong : ChangeSpec := { name := "fnEncodeRule", fn := fun _ => fun
  | [d] => { results := [.lit (.bool false)], args := [d] }
  | _ => none }
def FnEncodeRuleWrongFalsely : Prop := fnEncodeRuleRow.holds Tryz.pinned (OpenSpec.ofChange fnEncodeRuleWrong)

/-- 'laws.FnDecodeSolves': WHATEVER THE INPUT: true; the input reads as it did. -/
def fnDecodeSolvesSpec : ChangeSpec := { name := "fnDecodeSolves", fn := fun _ => fun
  | [d] => { results := [.lit (.bool true)], args := [d] }
  | _ => none }
def fnDecodeSolvesRow : OpenClaim := { program := "ytbjllamkfmejlaagreat", sum := "5b7d527d56ef5d3374a25b1fff8b743df5c1b9c57962094e5f3419c9bf372d57", func := "loop.example/cuttingplanes/laws.FnDecodeSolves", spec := "fnDecodeSolves", unfollowed := true, recurses := true, apart := false }
def FnDecodeSolvesSaid : Prop := fnDecodeSolvesRow.holds Tryz.pinned (OpenSpec.ofChange fnDecodeSolvesSpec)

/-- ITS FALSE NEIGHBOUR: 'it returns false'. Refute it at one input. -/
def fnDecodeSolvesWrong : ChangeSpec := { name := "fnDecodeSolves", fn := fun _ => fun
  | [d] => { results := [.lit (.bool false)], args := [d] }
  | _ => none }
def FnDecodeSolvesWrongFalsely : Prop := fnDecodeSolvesRow.holds Tryz.pinned (OpenSpec.ofChange fnDecodeSolvesWrong)

/-- 'laws.FnEncodeCount': WHATEVER THE INPUT: true; the input reads as it did. -/
def fnEncodeCountSpec : ChangeSpec := { name := "fnEncodeCount", fn := fun _ => fun
  | [d] => { results := [.lit (.bool true)], args := [d] }
  | _ => none }
def fnEncodeCountRow : OpenClaim := { program := "ytbjllamkfmejlaagreat", sum := "5b7d527d56ef5d3374a25b1fff8b743df5c1b9c57962094e5f3419c9bf372d57", func := "loop.example/cuttingplanes/laws.FnEncodeCount", spec := "fnEncodeCount", unfollowed := true, recurses := true, apart := false }
def FnEncodeCountSaid : Prop := fnEncodeCountRow.holds Tryz.pinned (OpenSpec.ofChange fnEncodeCountSpec)

/-- ITS FALSE NEIGHBOUR: 'it returns false'. Refute it at one input. -/
def fnEncodeCountWrong : ChangeSpec := { name := "fnEncodeCount", fn := fun _ => fun
  | [d] => { results := [.lit (.bool false)], args := [d] }
  | _ => none }
def FnEncodeCountWrongFalsely : Prop := fnEncodeCountRow.holds Tryz.pinned (OpenSpec.ofChange fnEncodeCountWrong)

/-- 'laws.FnEncodeModel': WHATEVER THE INPUT: true; the input reads as it did. -/
def fnEncodeModelSpec : ChangeSpec := { name := "fnEncodeModel", fn := fun _ => fun
  | [d] => { results := [.lit (.bool true)], args := [d] }
  | _ => none }
def fnEncodeModelRow : OpenClaim := { program := "ytbjllamkfmejlaagreat", sum := "5b7d527d56ef5d3374a25b1fff8b743df5c1b9c57962094e5f3419c9bf372d57", func := "loop.example/cuttingplanes/laws.FnEncodeModel", spec := "fnEncodeModel", unfollowed := true, recurses := true, apart := false }
def FnEncodeModelSaid : Prop := fnEncodeModelRow.holds Tryz.pinned (OpenSpec.ofChange fnEncodeModelSpec)

/-- ITS FALSE NEIGHBOUR: 'it returns false'. Refute it at one input. -/
def fnEncodeModelWrong : ChangeSpec := { name := "fnEncodeModel", fn := fun _ => fun
  | [d] => { results := [.lit (.bool false)], args := [d] }
  | _ => none }
def FnEncodeModelWrongFalsely : Prop := fnEncodeModelRow.holds Tryz.pinned (OpenSpec.ofChange fnEncodeModelWrong)

/-- 'laws.FnExactEncodeRule': WHATEVER THE INPUT: true; the input reads as it did. -/
def fnExactEncodeRuleSpec : ChangeSpec := { name := "fnExactEncodeRule", fn := fun _ => fun
  | [d1, d2] => { results := [.lit (.bool true)], args := [d1, d2] }
  | _ => none }
def fnExactEncodeRuleRow : OpenClaim := { program := "ytbjllamkfmejlaagreat", sum := "5b7d527d56ef5d3374a25b1fff8b743df5c1b9c57962094e5f3419c9bf372d57", func := "loop.example/cuttingplanes/laws.FnExactEncodeRule", spec := "fnExactEncodeRule", unfollowed := true, recurses := true, apart := false }
def FnExactEncodeRuleSaid : Prop := fnExactEncodeRuleRow.holds Tryz.pinned (OpenSpec.ofChange fnExactEncodeRuleSpec)

/-- ITS FALSE NEIGHBOUR: 'it returns false'. Refute it at one input. -/
def fnExactEncodeRuleWrong : ChangeSpec := { name := "fnExactEncodeRule", fn := fun _ => fun
  | [d1, d2] => { results := [.lit (.bool false)], args := [d1, d2] }
  | _ => none }
def FnExactEncodeRuleWrongFalsely : Prop := fnExactEncodeRuleRow.holds Tryz.pinned (OpenSpec.ofChange fnExactEncodeRuleWrong)

/-- 'laws.FnExactEncodeModel': WHATEVER THE INPUT: true; the input reads as it did. -/
def fnExactEncodeModelSpec : ChangeSpec := { name := "fnExactEncodeModel", fn := fun _ => fun
  | [d] => { results := [.lit (.bool true)], args := [d] }
  | _ => none }
def fnExactEncodeModelRow : OpenClaim := { program := "ytbjllamkfmejlaagreat", sum := "5b7d527d56ef5d3374a25b1fff8b743df5c1b9c57962094e5f3419c9bf372d57", func := "loop.example/cuttingplanes/laws.FnExactEncodeModel", spec := "fnExactEncodeModel", unfollowed := true, recurses := true, apart := false }
def FnExactEncodeModelSaid : Prop := fnExactEncodeModelRow.holds Tryz.pinned (OpenSpec.ofChange fnExactEncodeModelSpec)

/-- ITS FALSE NEIGHBOUR: 'it returns false'. Refute it at one input. -/
def fnExactEncodeModelWrong : ChangeSpec := { name := "fnExactEncodeModel", fn := fun _ => fun
  | [d] => { results := [.lit (.bool false)], args := [d] }
  | _ => none }
def FnExactEncodeModelWrongFalsely : Prop := fnExactEncodeModelRow.holds Tryz.pinned (OpenSpec.ofChange fnExactEncodeModelWrong)

/- THE SECOND FORM. 'bulk': how many values and letters a reading holds, each counted each time it is reached (what is shared counts as often as it is met; a slice's spare places count too). A statement '..UptoSaid' is the law's where the arguments, and the package variables that the reading takes, are together of bulk at most 1048576: NARROWER than '..Said'. Prove '..Said' where nothing that the law and all that it calls make is longer than what came in: it says more and counts as full. Else prove '..UptoSaid'. A law counts once. -/
mutual
def uptoBulk {H : Type} : DataW H → Nat
  | .lit (.string bytes) => bytes.length + 1
  | .lit _ => 1
  | .nil => 1
  | .ptr d => uptoBulk d + 1
  | .slice elems spare => uptoBulkAll elems + uptoBulkAll spare + 1
  | .agg parts => uptoBulkAll parts + 1
  | .iface _ d => uptoBulk d + 1
  | .map entries => uptoBulkEntries entries + 1
  | .held _ => 1
def uptoBulkAll {H : Type} : List (DataW H) → Nat
  | [] => 0
  | d :: r => uptoBulk d + uptoBulkAll r
def uptoBulkEntries {H : Type} : List (Lit × DataW H) → Nat
  | [] => 0
  | x :: r => uptoBulkEntry x + uptoBulkEntries r
def uptoBulkEntry {H : Type} : Lit × DataW H → Nat
  | (.string bytes, d) => bytes.length + uptoBulk d + 1
  | (_, d) => uptoBulk d + 1
 end
def uptoSmall : (H : Type) → List (DataW H) → Bool := fun _ ds => decide (uptoBulkAll ds ≤ 1048576)
def OpenSpec.upto (s : _root_.Go.ChangeSpec) : _root_.Go.OpenSpec := { _root_.Go.OpenSpec.ofChange s with cond := some uptoSmall }

/-- 'laws.FnEncodeFilter', WHERE WHAT IT READS IS OF BULK AT MOST 1048576: true; the input reads as it did. -/
def fnEncodeFilterUptoRow : OpenClaim := { program := "ytbjllamkfmejlaagreat", sum := "5b7d527d56ef5d3374a25b1fff8b743df5c1b9c57962094e5f3419c9bf372d57", func := "loop.example/cuttingplanes/laws.FnEncodeFilter", spec := "fnEncodeFilter", unfollowed := true, recurses := true, apart := false, narrowed := true }
def FnEncodeFilterUptoSaid : Prop := fnEncodeFilterUptoRow.holds Tryz.pinned (OpenSpec.upto fnEncodeFilterSpec)

/-- 'laws.FnEncodeSearch', WHERE WHAT IT READS IS OF BULK AT MOST 1048576: true; the input reads as it did. -/
def fnEncodeSearchUptoRow : OpenClaim := { program := "ytbjllamkfmejlaagreat", sum := "5b7d527d56ef5d3374a25b1fff8b743df5c1b9c57962094e5f3419c9bf372d57", func := "loop.example/cuttingplanes/laws.FnEncodeSearch", spec := "fnEncodeSearch", unfollowed := true, recurses := true, apart := false, narrowed := true }
def FnEncodeSearchUptoSaid : Prop := fnEncodeSearchUptoRow.holds Tryz.pinned (OpenSpec.upto fnEncodeSearchSpec)

/-- 'laws.FnEncodeSolves', WHERE WHAT IT READS IS OF BULK AT MOST 1048576: true; the input reads as it did. -/
def fnEncodeSolvesUptoRow : OpenClaim := { program := "ytbjllamkfmejlaagreat", sum := "5b7d527d56ef5d3374a25b1fff8b743df5c1b9c57962094e5f3419c9bf372d57", func := "loop.example/cuttingplanes/laws.FnEncodeSolves", spec := "fnEncodeSolves", unfollowed := true, recurses := true, apart := false, narrowed := true }
def FnEncodeSolvesUptoSaid : Prop := fnEncodeSolvesUptoRow.holds Tryz.pinned (OpenSpec.upto fnEncodeSolvesSpec)

/-- 'laws.FnEncodeRule', WHERE WHAT IT READS IS OF BULK AT MOST 1048576: true; the input reads as it did. -/
def fnEncodeRuleUptoRow : OpenClaim := { program := "ytbjllamkfmejlaagreat", sum := "5b7d527d56ef5d3374a25b1fff8b743df5c1b9c57962094e5f3419c9bf372d57", func := "loop.example/cuttingplanes/laws.FnEncodeRule", spec := "fnEncodeRule", unfollowed := true, recurses := true, apart := false, narrowed := true }
def FnEncodeRuleUptoSaid : Prop := fnEncodeRuleUptoRow.holds Tryz.pinned (OpenSpec.upto fnEncodeRuleSpec)

/-- 'laws.FnDecodeSolves', WHERE WHAT IT READS IS OF BULK AT MOST 1048576: true; the input reads as it did. -/
def fnDecodeSolvesUptoRow : OpenClaim := { program := "ytbjllamkfmejlaagreat", sum := "5b7d527d56ef5d3374a25b1fff8b743df5c1b9c57962094e5f3419c9bf372d57", func := "loop.example/cuttingplanes/laws.FnDecodeSolves", spec := "fnDecodeSolves", unfollowed := true, recurses := true, apart := false, narrowed := true }
def FnDecodeSolvesUptoSaid : Prop := fnDecodeSolvesUptoRow.holds Tryz.pinned (OpenSpec.upto fnDecodeSolvesSpec)

/-- 'laws.FnEncodeCount', WHERE WHAT IT READS IS OF BULK AT MOST 1048576: true; the input reads as it did. -/
def fnEncodeCountUptoRow : OpenClaim := { program := "ytbjllamkfmejlaagreat", sum := "5b7d527d56ef5d3374a25b1fff8b743df5c1b9c57962094e5f3419c9bf372d57", func := "loop.example/cuttingplanes/laws.FnEncodeCount", spec := "fnEncodeCount", unfollowed := true, recurses := true, apart := false, narrowed := true }
def FnEncodeCountUptoSaid : Prop := fnEncodeCountUptoRow.holds Tryz.pinned (OpenSpec.upto fnEncodeCountSpec)

/-- 'laws.FnEncodeModel', WHERE WHAT IT READS IS OF BULK AT MOST 1048576: true; the input reads as it did. -/
def fnEncodeModelUptoRow : OpenClaim := { program := "ytbjllamkfmejlaagreat", sum := "5b7d527d56ef5d3374a25b1fff8b743df5c1b9c57962094e5f3419c9bf372d57", func := "loop.example/cuttingplanes/laws.FnEncodeModel", spec := "fnEncodeModel", unfollowed := true, recurses := true, apart := false, narrowed := true }
def FnEncodeModelUptoSaid : Prop := fnEncodeModelUptoRow.holds Tryz.pinned (OpenSpec.upto fnEncodeModelSpec)

/-- 'laws.FnExactEncodeRule', WHERE WHAT IT READS IS OF BULK AT MOST 1048576: true; the input reads as it did. -/
def fnExactEncodeRuleUptoRow : OpenClaim := { program := "ytbjllamkfmejlaagreat", sum := "5b7d527d56ef5d3374a25b1fff8b743df5c1b9c57962094e5f3419c9bf372d57", func := "loop.example/cuttingplanes/laws.FnExactEncodeRule", spec := "fnExactEncodeRule", unfollowed := true, recurses := true, apart := false, narrowed := true }
def FnExactEncodeRuleUptoSaid : Prop := fnExactEncodeRuleUptoRow.holds Tryz.pinned (OpenSpec.upto fnExactEncodeRuleSpec)

/-- 'laws.FnExactEncodeModel', WHERE WHAT IT READS IS OF BULK AT MOST 1048576: true; the input reads as it did. -/
def fnExactEncodeModelUptoRow : OpenClaim := { program := "ytbjllamkfmejlaagreat", sum := "5b7d527d56ef5d3374a25b1fff8b743df5c1b9c57962094e5f3419c9bf372d57", func := "loop.example/cuttingplanes/laws.FnExactEncodeModel", spec := "fnExactEncodeModel", unfollowed := true, recurses := true, apart := false, narrowed := true }
def FnExactEncodeModelUptoSaid : Prop := fnExactEncodeModelUptoRow.holds Tryz.pinned (OpenSpec.upto fnExactEncodeModelSpec)

end Rows
end Go.Proofs.YtbjllamkfmejlaaGreat

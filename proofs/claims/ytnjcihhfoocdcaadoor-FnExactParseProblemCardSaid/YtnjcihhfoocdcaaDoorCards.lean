/-
  DERIVED. GIVEN WITH THE SEED: THE CARDS: each row of YtnjcihhfoocdcaaDoorRows.lean that lists a variable, with what it lists TIED to the program's text (the seventh form; the later family's looks); each row that meets fmt, with fmt's text TOLD by the authors' own Lean function (tested against real Go, not proved from fmt's source: count such statements apart). THE CARD IS WHAT COUNTS. Prove the row's statement (the work); the ties are given (YtnjcihhfoocdcaaDoorTie.lean); close each card by the builder's one call (the guide's Derived/Test/ToyasCard.lean, 'card_holds'). Laid BY PROGRAM, IN A SANDBOX (cutbox-door.mjs). By AI agents, Wed Nov 11 2026. No macro, syntax, notation, axiom, sorry.
-/
import Derived.Test.YtnjcihhfoocdcaaDoorRows
import GoSem.ClaimSeven
namespace Go.Proofs.YtnjcihhfoocdcaaDoor
namespace Rows

/-- THE TIED CARD OF 'laws.FnExactFormatConstraint'. -/
def fnExactFormatConstraintCard : Claim7 := { stood := { row := fnExactFormatConstraintRow, standIns := [], harness := (true, "80ecd85634306f967e0e2493612a2545b0c9080006614a92c0e63f2690f27a66"), looks := true }, kinds := [], alts := [], laidByText := true, laidKinds := [.data, .data, .data], laidTests := true, laidLooks := .later }
def FnExactFormatConstraintCardSaid : Prop := Claim7.holds Tryd.pinned (.plain (OpenSpec.ofChange fnExactFormatConstraintSpec)) fnExactFormatConstraintCard

/-- THE TIED CARD OF 'laws.FnExactParseConstraint'. -/
def fnExactParseConstraintCard : Claim7 := { stood := { row := fnExactParseConstraintRow, standIns := [], harness := (true, "80ecd85634306f967e0e2493612a2545b0c9080006614a92c0e63f2690f27a66"), looks := true }, kinds := [], alts := [], laidByText := true, laidKinds := [.data, .data, .data, .data, .sentinel, .sentinel, .pinned], laidTests := true, laidLooks := .later }
def FnExactParseConstraintCardSaid : Prop := Claim7.holds Tryd.pinned (.plain (OpenSpec.ofChange fnExactParseConstraintSpec)) fnExactParseConstraintCard

/-- THE TIED CARD OF 'laws.FnConstraintText'. -/
def fnConstraintTextCard : Claim7 := { stood := { row := fnConstraintTextRow, standIns := [], harness := (true, "80ecd85634306f967e0e2493612a2545b0c9080006614a92c0e63f2690f27a66"), looks := true }, kinds := [], alts := [], laidByText := true, laidKinds := [.data, .data, .data, .data, .sentinel, .sentinel, .pinned], laidTests := true, laidLooks := .later }
def FnConstraintTextCardSaid : Prop := Claim7.holds Tryd.pinned (.plain (OpenSpec.ofChange fnConstraintTextSpec)) fnConstraintTextCard

/-- THE TIED CARD OF 'laws.FnExactFormatProblem'. -/
def fnExactFormatProblemCard : Claim7 := { stood := { row := fnExactFormatProblemRow, standIns := [], harness := (true, "80ecd85634306f967e0e2493612a2545b0c9080006614a92c0e63f2690f27a66"), looks := true }, kinds := [], alts := [], laidByText := true, laidKinds := [.data, .data, .data], laidTests := true, laidLooks := .later }
def FnExactFormatProblemCardSaid : Prop := Claim7.holds Tryd.pinned (.plain (OpenSpec.ofChange fnExactFormatProblemSpec)) fnExactFormatProblemCard

/-- THE TIED CARD OF 'laws.FnExactParseProblem'. -/
def fnExactParseProblemCard : Claim7 := { stood := { row := fnExactParseProblemRow, standIns := [], harness := (true, "80ecd85634306f967e0e2493612a2545b0c9080006614a92c0e63f2690f27a66"), looks := true }, kinds := [], alts := [], laidByText := true, laidKinds := [.data, .data, .data, .data, .sentinel, .sentinel, .pinned], laidTests := true, laidLooks := .later }
def FnExactParseProblemCardSaid : Prop := Claim7.holds Tryd.pinned (.plain (OpenSpec.ofChange fnExactParseProblemSpec)) fnExactParseProblemCard

/-- THE SECOND FORM's CARD OF 'laws.FnExactFormatConstraint'. -/
def fnExactFormatConstraintUptoCard : Claim7 := { stood := { row := fnExactFormatConstraintUptoRow, standIns := [], harness := (true, "80ecd85634306f967e0e2493612a2545b0c9080006614a92c0e63f2690f27a66"), looks := true }, kinds := [], alts := [], laidByText := true, laidKinds := [.data, .data, .data], laidTests := true, laidLooks := .later }
def FnExactFormatConstraintUptoCardSaid : Prop := Claim7.holds Tryd.pinned (.plain (OpenSpec.upto fnExactFormatConstraintSpec)) fnExactFormatConstraintUptoCard

/-- THE SECOND FORM's CARD OF 'laws.FnExactParseConstraint'. -/
def fnExactParseConstraintUptoCard : Claim7 := { stood := { row := fnExactParseConstraintUptoRow, standIns := [], harness := (true, "80ecd85634306f967e0e2493612a2545b0c9080006614a92c0e63f2690f27a66"), looks := true }, kinds := [], alts := [], laidByText := true, laidKinds := [.data, .data, .data, .data, .sentinel, .sentinel, .pinned], laidTests := true, laidLooks := .later }
def FnExactParseConstraintUptoCardSaid : Prop := Claim7.holds Tryd.pinned (.plain (OpenSpec.upto fnExactParseConstraintSpec)) fnExactParseConstraintUptoCard

/-- THE SECOND FORM's CARD OF 'laws.FnConstraintText'. -/
def fnConstraintTextUptoCard : Claim7 := { stood := { row := fnConstraintTextUptoRow, standIns := [], harness := (true, "80ecd85634306f967e0e2493612a2545b0c9080006614a92c0e63f2690f27a66"), looks := true }, kinds := [], alts := [], laidByText := true, laidKinds := [.data, .data, .data, .data, .sentinel, .sentinel, .pinned], laidTests := true, laidLooks := .later }
def FnConstraintTextUptoCardSaid : Prop := Claim7.holds Tryd.pinned (.plain (OpenSpec.upto fnConstraintTextSpec)) fnConstraintTextUptoCard

/-- THE SECOND FORM's CARD OF 'laws.FnExactFormatProblem'. -/
def fnExactFormatProblemUptoCard : Claim7 := { stood := { row := fnExactFormatProblemUptoRow, standIns := [], harness := (true, "80ecd85634306f967e0e2493612a2545b0c9080006614a92c0e63f2690f27a66"), looks := true }, kinds := [], alts := [], laidByText := true, laidKinds := [.data, .data, .data], laidTests := true, laidLooks := .later }
def FnExactFormatProblemUptoCardSaid : Prop := Claim7.holds Tryd.pinned (.plain (OpenSpec.upto fnExactFormatProblemSpec)) fnExactFormatProblemUptoCard

/-- THE SECOND FORM's CARD OF 'laws.FnExactParseProblem'. -/
def fnExactParseProblemUptoCard : Claim7 := { stood := { row := fnExactParseProblemUptoRow, standIns := [], harness := (true, "80ecd85634306f967e0e2493612a2545b0c9080006614a92c0e63f2690f27a66"), looks := true }, kinds := [], alts := [], laidByText := true, laidKinds := [.data, .data, .data, .data, .sentinel, .sentinel, .pinned], laidTests := true, laidLooks := .later }
def FnExactParseProblemUptoCardSaid : Prop := Claim7.holds Tryd.pinned (.plain (OpenSpec.upto fnExactParseProblemSpec)) fnExactParseProblemUptoCard
end Rows
end Go.Proofs.YtnjcihhfoocdcaaDoor

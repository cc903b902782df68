/-
  DERIVED. GIVEN WITH THE SEED: THE CARDS: each row of YtnjcihhfoocdcaaGreatDoorRows.lean that lists a variable, with what it lists TIED to the program's text (the seventh form; the later family's looks); each row that meets fmt, with fmt's text TOLD by the authors' own Lean function (tested against real Go, not proved from fmt's source: count such statements apart). THE CARD IS WHAT COUNTS. Prove the row's statement (the work); the ties are given (YtnjcihhfoocdcaaGreatDoorTie.lean); close each card by the builder's one call (the guide's Derived/Test/ToyasCard.lean, 'card_holds'). Laid BY PROGRAM, IN A SANDBOX (cutbox-door.mjs). By AI agents, Wed Nov 11 2026. No macro, syntax, notation, axiom, sorry.
-/
import Derived.Test.YtnjcihhfoocdcaaGreatDoorRows
import GoSem.ClaimSeven
namespace Go.Proofs.YtnjcihhfoocdcaaGreatDoor
namespace Rows

/-- THE TIED CARD OF 'laws.FnProblemText'. -/
def fnProblemTextCard : Claim7 := { stood := { row := fnProblemTextRow, standIns := [], harness := (true, "b72f666c1607f3a0e47ce234a3c16e0050b1826c355ee7ed4f2d6c1408f49555"), looks := true }, kinds := [], alts := [], laidByText := true, laidKinds := [.data, .data, .data, .data, .sentinel, .sentinel, .pinned], laidTests := true, laidLooks := .later }
def FnProblemTextCardSaid : Prop := Claim7.holds Tryz.pinned (.plain (OpenSpec.ofChange fnProblemTextSpec)) fnProblemTextCard

/-- THE SECOND FORM's CARD OF 'laws.FnProblemText'. -/
def fnProblemTextUptoCard : Claim7 := { stood := { row := fnProblemTextUptoRow, standIns := [], harness := (true, "b72f666c1607f3a0e47ce234a3c16e0050b1826c355ee7ed4f2d6c1408f49555"), looks := true }, kinds := [], alts := [], laidByText := true, laidKinds := [.data, .data, .data, .data, .sentinel, .sentinel, .pinned], laidTests := true, laidLooks := .later }
def FnProblemTextUptoCardSaid : Prop := Claim7.holds Tryz.pinned (.plain (OpenSpec.upto fnProblemTextSpec)) fnProblemTextUptoCard
end Rows
end Go.Proofs.YtnjcihhfoocdcaaGreatDoor

/-
  DERIVED. GIVEN WITH THE SEED: THE CARDS: each row of YtohpkefnmkdaeaaGreatDoorRows.lean that lists a variable, with what it lists TIED to the program's text (the seventh form; the later family's looks); each row that meets fmt, with fmt's text TOLD by the authors' own Lean function (tested against real Go, not proved from fmt's source: count such statements apart). THE CARD IS WHAT COUNTS. Prove the row's statement (the work); the ties are given (YtohpkefnmkdaeaaGreatDoorTie.lean); close each card by the builder's one call (the guide's Derived/Test/ToyasCard.lean, 'card_holds'). Laid BY PROGRAM, IN A SANDBOX (cutbox-door.mjs). By AI agents, Wed Nov 11 2026. No macro, syntax, notation, axiom, sorry.
-/
import Derived.Test.YtohpkefnmkdaeaaGreatDoorRows
import GoSem.ClaimSeven
namespace Go.Proofs.YtohpkefnmkdaeaaGreatDoor
namespace Rows

/-- THE TIED CARD OF 'laws.FnExactParseModel'. -/
def fnExactParseModelCard : Claim7 := { stood := { row := fnExactParseModelRow, standIns := [], harness := (true, "d28c718d79753d14017c20d018258d7f2a89448fef8099808ddb4e290d497aa3"), looks := true }, kinds := [], alts := [], laidByText := true, laidKinds := [.data, .data, .data, .data, .sentinel, .sentinel, .pinned], laidTests := true, laidLooks := .later }
def FnExactParseModelCardSaid : Prop := Claim7.holds Tryz.pinned (.plain (OpenSpec.ofChange fnExactParseModelSpec)) fnExactParseModelCard

/-- THE TIED CARD OF 'laws.FnModelText'. -/
def fnModelTextCard : Claim7 := { stood := { row := fnModelTextRow, standIns := [], harness := (true, "d28c718d79753d14017c20d018258d7f2a89448fef8099808ddb4e290d497aa3"), looks := true }, kinds := [], alts := [], laidByText := true, laidKinds := [.data, .data, .data, .data, .sentinel, .sentinel, .pinned], laidTests := true, laidLooks := .later }
def FnModelTextCardSaid : Prop := Claim7.holds Tryz.pinned (.plain (OpenSpec.ofChange fnModelTextSpec)) fnModelTextCard

/-- THE TIED CARD OF 'laws.FnExactParseProof'. -/
def fnExactParseProofCard : Claim7 := { stood := { row := fnExactParseProofRow, standIns := [], harness := (true, "d28c718d79753d14017c20d018258d7f2a89448fef8099808ddb4e290d497aa3"), looks := true }, kinds := [], alts := [], laidByText := true, laidKinds := [.data, .data, .data, .data, .sentinel, .sentinel, .pinned], laidTests := true, laidLooks := .later }
def FnExactParseProofCardSaid : Prop := Claim7.holds Tryz.pinned (.plain (OpenSpec.ofChange fnExactParseProofSpec)) fnExactParseProofCard

/-- THE TIED CARD OF 'laws.FnProofText'. -/
def fnProofTextCard : Claim7 := { stood := { row := fnProofTextRow, standIns := [], harness := (true, "d28c718d79753d14017c20d018258d7f2a89448fef8099808ddb4e290d497aa3"), looks := true }, kinds := [], alts := [], laidByText := true, laidKinds := [.data, .data, .data, .data, .sentinel, .sentinel, .pinned], laidTests := true, laidLooks := .later }
def FnProofTextCardSaid : Prop := Claim7.holds Tryz.pinned (.plain (OpenSpec.ofChange fnProofTextSpec)) fnProofTextCard

/-- THE SECOND FORM's CARD OF 'laws.FnExactParseModel'. -/
def fnExactParseModelUptoCard : Claim7 := { stood := { row := fnExactParseModelUptoRow, standIns := [], harness := (true, "d28c718d79753d14017c20d018258d7f2a89448fef8099808ddb4e290d497aa3"), looks := true }, kinds := [], alts := [], laidByText := true, laidKinds := [.data, .data, .data, .data, .sentinel, .sentinel, .pinned], laidTests := true, laidLooks := .later }
def FnExactParseModelUptoCardSaid : Prop := Claim7.holds Tryz.pinned (.plain (OpenSpec.upto fnExactParseModelSpec)) fnExactParseModelUptoCard

/-- THE SECOND FORM's CARD OF 'laws.FnModelText'. -/
def fnModelTextUptoCard : Claim7 := { stood := { row := fnModelTextUptoRow, standIns := [], harness := (true, "d28c718d79753d14017c20d018258d7f2a89448fef8099808ddb4e290d497aa3"), looks := true }, kinds := [], alts := [], laidByText := true, laidKinds := [.data, .data, .data, .data, .sentinel, .sentinel, .pinned], laidTests := true, laidLooks := .later }
def FnModelTextUptoCardSaid : Prop := Claim7.holds Tryz.pinned (.plain (OpenSpec.upto fnModelTextSpec)) fnModelTextUptoCard

/-- THE SECOND FORM's CARD OF 'laws.FnExactParseProof'. -/
def fnExactParseProofUptoCard : Claim7 := { stood := { row := fnExactParseProofUptoRow, standIns := [], harness := (true, "d28c718d79753d14017c20d018258d7f2a89448fef8099808ddb4e290d497aa3"), looks := true }, kinds := [], alts := [], laidByText := true, laidKinds := [.data, .data, .data, .data, .sentinel, .sentinel, .pinned], laidTests := true, laidLooks := .later }
def FnExactParseProofUptoCardSaid : Prop := Claim7.holds Tryz.pinned (.plain (OpenSpec.upto fnExactParseProofSpec)) fnExactParseProofUptoCard

/-- THE SECOND FORM's CARD OF 'laws.FnProofText'. -/
def fnProofTextUptoCard : Claim7 := { stood := { row := fnProofTextUptoRow, standIns := [], harness := (true, "d28c718d79753d14017c20d018258d7f2a89448fef8099808ddb4e290d497aa3"), looks := true }, kinds := [], alts := [], laidByText := true, laidKinds := [.data, .data, .data, .data, .sentinel, .sentinel, .pinned], laidTests := true, laidLooks := .later }
def FnProofTextUptoCardSaid : Prop := Claim7.holds Tryz.pinned (.plain (OpenSpec.upto fnProofTextSpec)) fnProofTextUptoCard
end Rows
end Go.Proofs.YtohpkefnmkdaeaaGreatDoor

/-
  DERIVED. GIVEN WITH THE SEED: THE CARDS: each row of YtohpkefnmkdaeaaDoorRows.lean that lists a variable, with what it lists TIED to the program's text (the seventh form; the later family's looks); each row that meets fmt, with fmt's text TOLD by the authors' own Lean function (tested against real Go, not proved from fmt's source: count such statements apart). THE CARD IS WHAT COUNTS. Prove the row's statement (the work); the ties are given (YtohpkefnmkdaeaaDoorTie.lean); close each card by the builder's one call (the guide's Derived/Test/ToyasCard.lean, 'card_holds'). Laid BY PROGRAM, IN A SANDBOX (cutbox-door.mjs). By AI agents, Wed Nov 11 2026. No macro, syntax, notation, axiom, sorry.
-/
import Derived.Test.YtohpkefnmkdaeaaDoorRows
import GoSem.ClaimSeven
namespace Go.Proofs.YtohpkefnmkdaeaaDoor
namespace Rows

/-- THE TIED CARD OF 'laws.FnModelSame'. -/
def fnModelSameCard : Claim7 := { stood := { row := fnModelSameRow, standIns := [], harness := (true, "1d3f652a10cbba461f2bd4031d1fb53d18eb20218e174a09c52309637a4206f8"), looks := false }, kinds := [], alts := [], laidByText := true, laidKinds := [.data, .data, .data], laidTests := true, laidLooks := .later }
def FnModelSameCardSaid : Prop := Claim7.holds Tryd.pinned (.plain (OpenSpec.ofChange fnModelSameSpec)) fnModelSameCard

/-- THE TIED CARD OF 'laws.FnExactFormatModel'. -/
def fnExactFormatModelCard : Claim7 := { stood := { row := fnExactFormatModelRow, standIns := [], harness := (true, "1d3f652a10cbba461f2bd4031d1fb53d18eb20218e174a09c52309637a4206f8"), looks := false }, kinds := [], alts := [], laidByText := true, laidKinds := [.data, .data, .data], laidTests := true, laidLooks := .later }
def FnExactFormatModelCardSaid : Prop := Claim7.holds Tryd.pinned (.plain (OpenSpec.ofChange fnExactFormatModelSpec)) fnExactFormatModelCard

/-- THE TIED CARD OF 'laws.FnExactFormatProof'. -/
def fnExactFormatProofCard : Claim7 := { stood := { row := fnExactFormatProofRow, standIns := [], harness := (true, "1d3f652a10cbba461f2bd4031d1fb53d18eb20218e174a09c52309637a4206f8"), looks := false }, kinds := [], alts := [], laidByText := true, laidKinds := [.data, .data, .data], laidTests := true, laidLooks := .later }
def FnExactFormatProofCardSaid : Prop := Claim7.holds Tryd.pinned (.plain (OpenSpec.ofChange fnExactFormatProofSpec)) fnExactFormatProofCard

/-- THE SECOND FORM's CARD OF 'laws.FnModelSame'. -/
def fnModelSameUptoCard : Claim7 := { stood := { row := fnModelSameUptoRow, standIns := [], harness := (true, "1d3f652a10cbba461f2bd4031d1fb53d18eb20218e174a09c52309637a4206f8"), looks := false }, kinds := [], alts := [], laidByText := true, laidKinds := [.data, .data, .data], laidTests := true, laidLooks := .later }
def FnModelSameUptoCardSaid : Prop := Claim7.holds Tryd.pinned (.plain (OpenSpec.upto fnModelSameSpec)) fnModelSameUptoCard

/-- THE SECOND FORM's CARD OF 'laws.FnExactFormatModel'. -/
def fnExactFormatModelUptoCard : Claim7 := { stood := { row := fnExactFormatModelUptoRow, standIns := [], harness := (true, "1d3f652a10cbba461f2bd4031d1fb53d18eb20218e174a09c52309637a4206f8"), looks := false }, kinds := [], alts := [], laidByText := true, laidKinds := [.data, .data, .data], laidTests := true, laidLooks := .later }
def FnExactFormatModelUptoCardSaid : Prop := Claim7.holds Tryd.pinned (.plain (OpenSpec.upto fnExactFormatModelSpec)) fnExactFormatModelUptoCard

/-- THE SECOND FORM's CARD OF 'laws.FnExactFormatProof'. -/
def fnExactFormatProofUptoCard : Claim7 := { stood := { row := fnExactFormatProofUptoRow, standIns := [], harness := (true, "1d3f652a10cbba461f2bd4031d1fb53d18eb20218e174a09c52309637a4206f8"), looks := false }, kinds := [], alts := [], laidByText := true, laidKinds := [.data, .data, .data], laidTests := true, laidLooks := .later }
def FnExactFormatProofUptoCardSaid : Prop := Claim7.holds Tryd.pinned (.plain (OpenSpec.upto fnExactFormatProofSpec)) fnExactFormatProofUptoCard
end Rows
end Go.Proofs.YtohpkefnmkdaeaaDoor

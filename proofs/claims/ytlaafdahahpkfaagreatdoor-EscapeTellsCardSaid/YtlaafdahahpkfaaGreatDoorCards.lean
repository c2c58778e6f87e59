/-
  DERIVED. GIVEN WITH THE SEED: THE CARDS: each row of YtlaafdahahpkfaaGreatDoorRows.lean that lists a variable, with what it lists TIED to the program's text (the seventh form; the later family's looks); each row that meets fmt, with fmt's text TOLD by the authors' own Lean function (tested against real Go, not proved from fmt's source: count such statements apart). THE CARD IS WHAT COUNTS. Prove the row's statement (the work); the ties are given (YtlaafdahahpkfaaGreatDoorTie.lean); close each card by the builder's one call (the guide's Derived/Test/ToyasCard.lean, 'card_holds'). Laid BY PROGRAM, IN A SANDBOX (cutbox-door.mjs). By AI agents, Wed Nov 11 2026. No macro, syntax, notation, axiom, sorry.
-/
import Derived.Test.YtlaafdahahpkfaaGreatDoorRows
import GoSem.ClaimSeven
namespace Go.Proofs.YtlaafdahahpkfaaGreatDoor
namespace Rows

/-- THE TIED CARD OF 'marginalialaw.EscapeTells'. -/
def escapeTellsCard : Claim7 := { stood := { row := escapeTellsRow, standIns := [], harness := (true, "160851cce3ba2f27b273502d95cc46ad712f42b17e2c5e82e879dd6e5fdbeaff"), looks := true }, kinds := [], alts := [], laidByText := true, laidKinds := [.data, .data, .data, .sentinel, .sentinel], laidTests := true, laidLooks := .later }
def EscapeTellsCardSaid : Prop := Claim7.holds Tryz.pinned (.plain (OpenSpec.ofChange escapeTellsSpec)) escapeTellsCard

/-- THE TIED CARD OF 'marginalialaw.EscapeBack'. -/
def escapeBackCard : Claim7 := { stood := { row := escapeBackRow, standIns := [], harness := (true, "160851cce3ba2f27b273502d95cc46ad712f42b17e2c5e82e879dd6e5fdbeaff"), looks := true }, kinds := [], alts := [], laidByText := true, laidKinds := [.data, .data, .data, .sentinel, .sentinel], laidTests := true, laidLooks := .later }
def EscapeBackCardSaid : Prop := Claim7.holds Tryz.pinned (.plain (OpenSpec.ofChange escapeBackSpec)) escapeBackCard

/-- THE TIED CARD OF 'marginalialaw.EscapeParts'. -/
def escapePartsCard : Claim7 := { stood := { row := escapePartsRow, standIns := [], harness := (true, "160851cce3ba2f27b273502d95cc46ad712f42b17e2c5e82e879dd6e5fdbeaff"), looks := true }, kinds := [], alts := [], laidByText := true, laidKinds := [.data, .data, .data, .sentinel, .sentinel], laidTests := true, laidLooks := .later }
def EscapePartsCardSaid : Prop := Claim7.holds Tryz.pinned (.plain (OpenSpec.ofChange escapePartsSpec)) escapePartsCard

/-- THE SECOND FORM's CARD OF 'marginalialaw.EscapeTells'. -/
def escapeTellsUptoCard : Claim7 := { stood := { row := escapeTellsUptoRow, standIns := [], harness := (true, "160851cce3ba2f27b273502d95cc46ad712f42b17e2c5e82e879dd6e5fdbeaff"), looks := true }, kinds := [], alts := [], laidByText := true, laidKinds := [.data, .data, .data, .sentinel, .sentinel], laidTests := true, laidLooks := .later }
def EscapeTellsUptoCardSaid : Prop := Claim7.holds Tryz.pinned (.plain (OpenSpec.upto escapeTellsSpec)) escapeTellsUptoCard

/-- THE SECOND FORM's CARD OF 'marginalialaw.EscapeBack'. -/
def escapeBackUptoCard : Claim7 := { stood := { row := escapeBackUptoRow, standIns := [], harness := (true, "160851cce3ba2f27b273502d95cc46ad712f42b17e2c5e82e879dd6e5fdbeaff"), looks := true }, kinds := [], alts := [], laidByText := true, laidKinds := [.data, .data, .data, .sentinel, .sentinel], laidTests := true, laidLooks := .later }
def EscapeBackUptoCardSaid : Prop := Claim7.holds Tryz.pinned (.plain (OpenSpec.upto escapeBackSpec)) escapeBackUptoCard

/-- THE SECOND FORM's CARD OF 'marginalialaw.EscapeParts'. -/
def escapePartsUptoCard : Claim7 := { stood := { row := escapePartsUptoRow, standIns := [], harness := (true, "160851cce3ba2f27b273502d95cc46ad712f42b17e2c5e82e879dd6e5fdbeaff"), looks := true }, kinds := [], alts := [], laidByText := true, laidKinds := [.data, .data, .data, .sentinel, .sentinel], laidTests := true, laidLooks := .later }
def EscapePartsUptoCardSaid : Prop := Claim7.holds Tryz.pinned (.plain (OpenSpec.upto escapePartsSpec)) escapePartsUptoCard
end Rows
end Go.Proofs.YtlaafdahahpkfaaGreatDoor

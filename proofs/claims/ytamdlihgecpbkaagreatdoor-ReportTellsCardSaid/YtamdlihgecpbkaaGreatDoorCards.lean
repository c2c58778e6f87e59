/-
  DERIVED. GIVEN WITH THE SEED: THE CARDS: each row of YtamdlihgecpbkaaGreatDoorRows.lean that lists a variable, with what it lists TIED to the program's text (the seventh form; the later family's looks); each row that meets fmt, with fmt's text TOLD by the authors' own Lean function (tested against real Go, not proved from fmt's source: count such statements apart). THE CARD IS WHAT COUNTS. Prove the row's statement (the work); the ties are given (YtamdlihgecpbkaaGreatDoorTie.lean); close each card by the builder's one call (the guide's Derived/Test/ToyasCard.lean, 'card_holds'). Laid BY PROGRAM, IN A SANDBOX (cutbox-door.mjs). By AI agents, Wed Nov 11 2026. No macro, syntax, notation, axiom, sorry.
-/
import Derived.Test.YtamdlihgecpbkaaGreatDoorRows
import GoSem.ClaimSeven
namespace Go.Proofs.YtamdlihgecpbkaaGreatDoor
namespace Rows

/-- THE TIED CARD OF 'marginalialaw.FindTells'. -/
def findTellsCard : Claim7 := { stood := { row := findTellsRow, standIns := [], harness := (true, "26ddaa6200fe9656e682b4b11b3c474dd56a786dade83151e1968bd18ac7aa45"), looks := true }, kinds := [], alts := [], laidByText := true, laidKinds := [.data, .data, .data, .sentinel, .sentinel], laidTests := true, laidLooks := .later }
def FindTellsCardSaid : Prop := Claim7.holds Tryz.pinned (.plain (OpenSpec.ofChange findTellsSpec)) findTellsCard

/-- THE TIED CARD OF 'marginalialaw.FindMarked'. -/
def findMarkedCard : Claim7 := { stood := { row := findMarkedRow, standIns := [], harness := (true, "26ddaa6200fe9656e682b4b11b3c474dd56a786dade83151e1968bd18ac7aa45"), looks := true }, kinds := [], alts := [], laidByText := true, laidKinds := [.data, .data, .data, .sentinel, .sentinel], laidTests := true, laidLooks := .later }
def FindMarkedCardSaid : Prop := Claim7.holds Tryz.pinned (.plain (OpenSpec.ofChange findMarkedSpec)) findMarkedCard

/-- THE TIED CARD OF 'marginalialaw.ReportTells'. -/
def reportTellsCard : Claim7 := { stood := { row := reportTellsRow, standIns := [], harness := (true, "26ddaa6200fe9656e682b4b11b3c474dd56a786dade83151e1968bd18ac7aa45"), looks := true }, kinds := [], alts := [], laidByText := true, laidKinds := [.data, .data, .data, .sentinel, .sentinel], laidTests := true, laidLooks := .later }
def ReportTellsCardSaid : Prop := Claim7.holds Tryz.pinned (.plain (OpenSpec.ofChange reportTellsSpec)) reportTellsCard

/-- THE SECOND FORM's CARD OF 'marginalialaw.FindTells'. -/
def findTellsUptoCard : Claim7 := { stood := { row := findTellsUptoRow, standIns := [], harness := (true, "26ddaa6200fe9656e682b4b11b3c474dd56a786dade83151e1968bd18ac7aa45"), looks := true }, kinds := [], alts := [], laidByText := true, laidKinds := [.data, .data, .data, .sentinel, .sentinel], laidTests := true, laidLooks := .later }
def FindTellsUptoCardSaid : Prop := Claim7.holds Tryz.pinned (.plain (OpenSpec.upto findTellsSpec)) findTellsUptoCard

/-- THE SECOND FORM's CARD OF 'marginalialaw.FindMarked'. -/
def findMarkedUptoCard : Claim7 := { stood := { row := findMarkedUptoRow, standIns := [], harness := (true, "26ddaa6200fe9656e682b4b11b3c474dd56a786dade83151e1968bd18ac7aa45"), looks := true }, kinds := [], alts := [], laidByText := true, laidKinds := [.data, .data, .data, .sentinel, .sentinel], laidTests := true, laidLooks := .later }
def FindMarkedUptoCardSaid : Prop := Claim7.holds Tryz.pinned (.plain (OpenSpec.upto findMarkedSpec)) findMarkedUptoCard

/-- THE SECOND FORM's CARD OF 'marginalialaw.ReportTells'. -/
def reportTellsUptoCard : Claim7 := { stood := { row := reportTellsUptoRow, standIns := [], harness := (true, "26ddaa6200fe9656e682b4b11b3c474dd56a786dade83151e1968bd18ac7aa45"), looks := true }, kinds := [], alts := [], laidByText := true, laidKinds := [.data, .data, .data, .sentinel, .sentinel], laidTests := true, laidLooks := .later }
def ReportTellsUptoCardSaid : Prop := Claim7.holds Tryz.pinned (.plain (OpenSpec.upto reportTellsSpec)) reportTellsUptoCard
end Rows
end Go.Proofs.YtamdlihgecpbkaaGreatDoor

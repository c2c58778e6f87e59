/-
  DERIVED. GIVEN WITH THE SEED: THE CARDS: each row of YtkacjnifhmgeiaaGreatDoorRows.lean that lists a variable, with what it lists TIED to the program's text (the seventh form; the later family's looks); each row that meets fmt, with fmt's text TOLD by the authors' own Lean function (tested against real Go, not proved from fmt's source: count such statements apart). THE CARD IS WHAT COUNTS. Prove the row's statement (the work); the ties are given (YtkacjnifhmgeiaaGreatDoorTie.lean); close each card by the builder's one call (the guide's Derived/Test/ToyasCard.lean, 'card_holds'). Laid BY PROGRAM, IN A SANDBOX (cutbox-door.mjs). By AI agents, Wed Nov 11 2026. No macro, syntax, notation, axiom, sorry.
-/
import Derived.Test.YtkacjnifhmgeiaaGreatDoorRows
import GoSem.ClaimSeven
namespace Go.Proofs.YtkacjnifhmgeiaaGreatDoor
namespace Rows

/-- THE TIED CARD OF 'marginalialaw.XmlTells'. -/
def xmlTellsCard : Claim7 := { stood := { row := xmlTellsRow, standIns := [], harness := (true, "93b38a6148e76ca2f640bb28d21fdceef9caa10293bc3442937f677a61f91368"), looks := true }, kinds := [], alts := [], laidByText := true, laidKinds := [.data, .data, .data, .sentinel, .sentinel], laidTests := true, laidLooks := .later }
def XmlTellsCardSaid : Prop := Claim7.holds Tryz.pinned (.plain (OpenSpec.ofChange xmlTellsSpec)) xmlTellsCard

/-- THE TIED CARD OF 'marginalialaw.XmlBack'. -/
def xmlBackCard : Claim7 := { stood := { row := xmlBackRow, standIns := [], harness := (true, "93b38a6148e76ca2f640bb28d21fdceef9caa10293bc3442937f677a61f91368"), looks := true }, kinds := [], alts := [], laidByText := true, laidKinds := [.data, .data, .data, .sentinel, .sentinel], laidTests := true, laidLooks := .later }
def XmlBackCardSaid : Prop := Claim7.holds Tryz.pinned (.plain (OpenSpec.ofChange xmlBackSpec)) xmlBackCard

/-- THE TIED CARD OF 'marginalialaw.XmlText'. -/
def xmlTextCard : Claim7 := { stood := { row := xmlTextRow, standIns := [], harness := (true, "93b38a6148e76ca2f640bb28d21fdceef9caa10293bc3442937f677a61f91368"), looks := true }, kinds := [], alts := [], laidByText := true, laidKinds := [.data, .data, .data, .sentinel, .sentinel], laidTests := true, laidLooks := .later }
def XmlTextCardSaid : Prop := Claim7.holds Tryz.pinned (.plain (OpenSpec.ofChange xmlTextSpec)) xmlTextCard

/-- THE SECOND FORM's CARD OF 'marginalialaw.XmlTells'. -/
def xmlTellsUptoCard : Claim7 := { stood := { row := xmlTellsUptoRow, standIns := [], harness := (true, "93b38a6148e76ca2f640bb28d21fdceef9caa10293bc3442937f677a61f91368"), looks := true }, kinds := [], alts := [], laidByText := true, laidKinds := [.data, .data, .data, .sentinel, .sentinel], laidTests := true, laidLooks := .later }
def XmlTellsUptoCardSaid : Prop := Claim7.holds Tryz.pinned (.plain (OpenSpec.upto xmlTellsSpec)) xmlTellsUptoCard

/-- THE SECOND FORM's CARD OF 'marginalialaw.XmlBack'. -/
def xmlBackUptoCard : Claim7 := { stood := { row := xmlBackUptoRow, standIns := [], harness := (true, "93b38a6148e76ca2f640bb28d21fdceef9caa10293bc3442937f677a61f91368"), looks := true }, kinds := [], alts := [], laidByText := true, laidKinds := [.data, .data, .data, .sentinel, .sentinel], laidTests := true, laidLooks := .later }
def XmlBackUptoCardSaid : Prop := Claim7.holds Tryz.pinned (.plain (OpenSpec.upto xmlBackSpec)) xmlBackUptoCard

/-- THE SECOND FORM's CARD OF 'marginalialaw.XmlText'. -/
def xmlTextUptoCard : Claim7 := { stood := { row := xmlTextUptoRow, standIns := [], harness := (true, "93b38a6148e76ca2f640bb28d21fdceef9caa10293bc3442937f677a61f91368"), looks := true }, kinds := [], alts := [], laidByText := true, laidKinds := [.data, .data, .data, .sentinel, .sentinel], laidTests := true, laidLooks := .later }
def XmlTextUptoCardSaid : Prop := Claim7.holds Tryz.pinned (.plain (OpenSpec.upto xmlTextSpec)) xmlTextUptoCard
end Rows
end Go.Proofs.YtkacjnifhmgeiaaGreatDoor

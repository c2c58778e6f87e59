/-
  DERIVED. GIVEN WITH THE SEED: THE CARDS: each row of YthnpljkekhieiaaGreatDoorRows.lean that lists a variable, with what it lists TIED to the program's text (the seventh form; the later family's looks); each row that meets fmt, with fmt's text TOLD by the authors' own Lean function (tested against real Go, not proved from fmt's source: count such statements apart). THE CARD IS WHAT COUNTS. Prove the row's statement (the work); the ties are given (YthnpljkekhieiaaGreatDoorTie.lean); close each card by the builder's one call (the guide's Derived/Test/ToyasCard.lean, 'card_holds'). Laid BY PROGRAM, IN A SANDBOX (cutbox-door.mjs). By AI agents, Wed Nov 11 2026. No macro, syntax, notation, axiom, sorry.
-/
import Derived.Test.YthnpljkekhieiaaGreatDoorRows
import GoSem.ClaimSeven
namespace Go.Proofs.YthnpljkekhieiaaGreatDoor
namespace Rows

/-- THE TIED CARD OF 'marginalialaw.ShelfMarks'. -/
def shelfMarksCard : Claim7 := { stood := { row := shelfMarksRow, standIns := [], harness := (true, "57ce684b020b4e184839a578269adc3f88fd77f5cd393304774b22d0284daf5c"), looks := true }, kinds := [], alts := [], laidByText := true, laidKinds := [.data, .data, .data, .sentinel, .sentinel], laidTests := true, laidLooks := .later }
def ShelfMarksCardSaid : Prop := Claim7.holds Tryz.pinned (.plain (OpenSpec.ofChange shelfMarksSpec)) shelfMarksCard

/-- THE TIED CARD OF 'marginalialaw.ShelfNewest'. -/
def shelfNewestCard : Claim7 := { stood := { row := shelfNewestRow, standIns := [], harness := (true, "57ce684b020b4e184839a578269adc3f88fd77f5cd393304774b22d0284daf5c"), looks := true }, kinds := [], alts := [], laidByText := true, laidKinds := [.data, .data, .data, .sentinel, .sentinel], laidTests := true, laidLooks := .later }
def ShelfNewestCardSaid : Prop := Claim7.holds Tryz.pinned (.plain (OpenSpec.ofChange shelfNewestSpec)) shelfNewestCard

/-- THE TIED CARD OF 'marginalialaw.ShelfTells'. -/
def shelfTellsCard : Claim7 := { stood := { row := shelfTellsRow, standIns := [], harness := (true, "57ce684b020b4e184839a578269adc3f88fd77f5cd393304774b22d0284daf5c"), looks := true }, kinds := [], alts := [], laidByText := true, laidKinds := [.data, .data, .data, .sentinel, .sentinel], laidTests := true, laidLooks := .later }
def ShelfTellsCardSaid : Prop := Claim7.holds Tryz.pinned (.plain (OpenSpec.ofChange shelfTellsSpec)) shelfTellsCard

/-- THE TIED CARD OF 'marginalialaw.ShelfOnce'. -/
def shelfOnceCard : Claim7 := { stood := { row := shelfOnceRow, standIns := [], harness := (true, "57ce684b020b4e184839a578269adc3f88fd77f5cd393304774b22d0284daf5c"), looks := true }, kinds := [], alts := [], laidByText := true, laidKinds := [.data, .data, .data, .sentinel, .sentinel], laidTests := true, laidLooks := .later }
def ShelfOnceCardSaid : Prop := Claim7.holds Tryz.pinned (.plain (OpenSpec.ofChange shelfOnceSpec)) shelfOnceCard

/-- THE SECOND FORM's CARD OF 'marginalialaw.ShelfMarks'. -/
def shelfMarksUptoCard : Claim7 := { stood := { row := shelfMarksUptoRow, standIns := [], harness := (true, "57ce684b020b4e184839a578269adc3f88fd77f5cd393304774b22d0284daf5c"), looks := true }, kinds := [], alts := [], laidByText := true, laidKinds := [.data, .data, .data, .sentinel, .sentinel], laidTests := true, laidLooks := .later }
def ShelfMarksUptoCardSaid : Prop := Claim7.holds Tryz.pinned (.plain (OpenSpec.upto shelfMarksSpec)) shelfMarksUptoCard

/-- THE SECOND FORM's CARD OF 'marginalialaw.ShelfNewest'. -/
def shelfNewestUptoCard : Claim7 := { stood := { row := shelfNewestUptoRow, standIns := [], harness := (true, "57ce684b020b4e184839a578269adc3f88fd77f5cd393304774b22d0284daf5c"), looks := true }, kinds := [], alts := [], laidByText := true, laidKinds := [.data, .data, .data, .sentinel, .sentinel], laidTests := true, laidLooks := .later }
def ShelfNewestUptoCardSaid : Prop := Claim7.holds Tryz.pinned (.plain (OpenSpec.upto shelfNewestSpec)) shelfNewestUptoCard

/-- THE SECOND FORM's CARD OF 'marginalialaw.ShelfTells'. -/
def shelfTellsUptoCard : Claim7 := { stood := { row := shelfTellsUptoRow, standIns := [], harness := (true, "57ce684b020b4e184839a578269adc3f88fd77f5cd393304774b22d0284daf5c"), looks := true }, kinds := [], alts := [], laidByText := true, laidKinds := [.data, .data, .data, .sentinel, .sentinel], laidTests := true, laidLooks := .later }
def ShelfTellsUptoCardSaid : Prop := Claim7.holds Tryz.pinned (.plain (OpenSpec.upto shelfTellsSpec)) shelfTellsUptoCard

/-- THE SECOND FORM's CARD OF 'marginalialaw.ShelfOnce'. -/
def shelfOnceUptoCard : Claim7 := { stood := { row := shelfOnceUptoRow, standIns := [], harness := (true, "57ce684b020b4e184839a578269adc3f88fd77f5cd393304774b22d0284daf5c"), looks := true }, kinds := [], alts := [], laidByText := true, laidKinds := [.data, .data, .data, .sentinel, .sentinel], laidTests := true, laidLooks := .later }
def ShelfOnceUptoCardSaid : Prop := Claim7.holds Tryz.pinned (.plain (OpenSpec.upto shelfOnceSpec)) shelfOnceUptoCard
end Rows
end Go.Proofs.YthnpljkekhieiaaGreatDoor

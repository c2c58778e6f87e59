/-
  DERIVED. GIVEN WITH THE SEED: THE CARDS: each row of YtkmndlnhpegdgaaDoorRows.lean that lists a variable, with what it lists TIED to the program's text (the seventh form; the later family's looks); each row that meets fmt, with fmt's text TOLD by the authors' own Lean function (tested against real Go, not proved from fmt's source: count such statements apart). THE CARD IS WHAT COUNTS. Prove the row's statement (the work); the ties are given (YtkmndlnhpegdgaaDoorTie.lean); close each card by the builder's one call (the guide's Derived/Test/ToyasCard.lean, 'card_holds'). Laid BY PROGRAM, IN A SANDBOX (cutbox-door.mjs). By AI agents, Wed Nov 11 2026. No macro, syntax, notation, axiom, sorry.
-/
import Derived.Test.YtkmndlnhpegdgaaDoorRows
import GoSem.ClaimSeven
namespace Go.Proofs.YtkmndlnhpegdgaaDoor
namespace Rows

/-- THE TIED CARD OF 'marginalialaw.DateTells'. -/
def dateTellsCard : Claim7 := { stood := { row := dateTellsRow, standIns := [], harness := (true, "2f4b4ac44c809416f744c5fcc34b12d00f045ee4d3b29e4ab079fc062e27c075"), looks := false }, kinds := [], alts := [], laidByText := true, laidKinds := [.data, .data, .data], laidTests := true, laidLooks := .later }
def DateTellsCardSaid : Prop := Claim7.holds Tryd.pinned (.plain (OpenSpec.ofChange dateTellsSpec)) dateTellsCard

/-- THE TIED CARD OF 'marginalialaw.DateBack'. -/
def dateBackCard : Claim7 := { stood := { row := dateBackRow, standIns := [], harness := (true, "2f4b4ac44c809416f744c5fcc34b12d00f045ee4d3b29e4ab079fc062e27c075"), looks := false }, kinds := [], alts := [], laidByText := true, laidKinds := [.data, .data, .data], laidTests := true, laidLooks := .later }
def DateBackCardSaid : Prop := Claim7.holds Tryd.pinned (.plain (OpenSpec.ofChange dateBackSpec)) dateBackCard

/-- THE TIED CARD OF 'marginalialaw.DateZones'. -/
def dateZonesCard : Claim7 := { stood := { row := dateZonesRow, standIns := [], harness := (true, "2f4b4ac44c809416f744c5fcc34b12d00f045ee4d3b29e4ab079fc062e27c075"), looks := false }, kinds := [], alts := [], laidByText := true, laidKinds := [.data, .data, .data], laidTests := true, laidLooks := .later }
def DateZonesCardSaid : Prop := Claim7.holds Tryd.pinned (.plain (OpenSpec.ofChange dateZonesSpec)) dateZonesCard

/-- THE TIED CARD OF 'marginalialaw.DateSame'. -/
def dateSameCard : Claim7 := { stood := { row := dateSameRow, standIns := [], harness := (true, "2f4b4ac44c809416f744c5fcc34b12d00f045ee4d3b29e4ab079fc062e27c075"), looks := false }, kinds := [], alts := [], laidByText := true, laidKinds := [.data, .data, .data], laidTests := true, laidLooks := .later }
def DateSameCardSaid : Prop := Claim7.holds Tryd.pinned (.plain (OpenSpec.ofChange dateSameSpec)) dateSameCard

/-- THE SECOND FORM's CARD OF 'marginalialaw.DateTells'. -/
def dateTellsUptoCard : Claim7 := { stood := { row := dateTellsUptoRow, standIns := [], harness := (true, "2f4b4ac44c809416f744c5fcc34b12d00f045ee4d3b29e4ab079fc062e27c075"), looks := false }, kinds := [], alts := [], laidByText := true, laidKinds := [.data, .data, .data], laidTests := true, laidLooks := .later }
def DateTellsUptoCardSaid : Prop := Claim7.holds Tryd.pinned (.plain (OpenSpec.upto dateTellsSpec)) dateTellsUptoCard

/-- THE SECOND FORM's CARD OF 'marginalialaw.DateBack'. -/
def dateBackUptoCard : Claim7 := { stood := { row := dateBackUptoRow, standIns := [], harness := (true, "2f4b4ac44c809416f744c5fcc34b12d00f045ee4d3b29e4ab079fc062e27c075"), looks := false }, kinds := [], alts := [], laidByText := true, laidKinds := [.data, .data, .data], laidTests := true, laidLooks := .later }
def DateBackUptoCardSaid : Prop := Claim7.holds Tryd.pinned (.plain (OpenSpec.upto dateBackSpec)) dateBackUptoCard

/-- THE SECOND FORM's CARD OF 'marginalialaw.DateZones'. -/
def dateZonesUptoCard : Claim7 := { stood := { row := dateZonesUptoRow, standIns := [], harness := (true, "2f4b4ac44c809416f744c5fcc34b12d00f045ee4d3b29e4ab079fc062e27c075"), looks := false }, kinds := [], alts := [], laidByText := true, laidKinds := [.data, .data, .data], laidTests := true, laidLooks := .later }
def DateZonesUptoCardSaid : Prop := Claim7.holds Tryd.pinned (.plain (OpenSpec.upto dateZonesSpec)) dateZonesUptoCard

/-- THE SECOND FORM's CARD OF 'marginalialaw.DateSame'. -/
def dateSameUptoCard : Claim7 := { stood := { row := dateSameUptoRow, standIns := [], harness := (true, "2f4b4ac44c809416f744c5fcc34b12d00f045ee4d3b29e4ab079fc062e27c075"), looks := false }, kinds := [], alts := [], laidByText := true, laidKinds := [.data, .data, .data], laidTests := true, laidLooks := .later }
def DateSameUptoCardSaid : Prop := Claim7.holds Tryd.pinned (.plain (OpenSpec.upto dateSameSpec)) dateSameUptoCard
end Rows
end Go.Proofs.YtkmndlnhpegdgaaDoor

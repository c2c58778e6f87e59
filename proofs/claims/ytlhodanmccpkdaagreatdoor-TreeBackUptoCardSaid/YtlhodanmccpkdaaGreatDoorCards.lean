/-
  DERIVED. GIVEN WITH THE SEED: THE CARDS: each row of YtlhodanmccpkdaaGreatDoorRows.lean that lists a variable, with what it lists TIED to the program's text (the seventh form; the later family's looks); each row that meets fmt, with fmt's text TOLD by the authors' own Lean function (tested against real Go, not proved from fmt's source: count such statements apart). THE CARD IS WHAT COUNTS. Prove the row's statement (the work); the ties are given (YtlhodanmccpkdaaGreatDoorTie.lean); close each card by the builder's one call (the guide's Derived/Test/ToyasCard.lean, 'card_holds'). Laid BY PROGRAM, IN A SANDBOX (cutbox-door.mjs). By AI agents, Wed Nov 11 2026. No macro, syntax, notation, axiom, sorry.
-/
import Derived.Test.YtlhodanmccpkdaaGreatDoorRows
import GoSem.ClaimSeven
namespace Go.Proofs.YtlhodanmccpkdaaGreatDoor
namespace Rows

/-- THE TIED CARD OF 'marginalialaw.TreeKeeps'. -/
def treeKeepsCard : Claim7 := { stood := { row := treeKeepsRow, standIns := [], harness := (true, "b08805be5ce4a06be192c98d40f602126357f38f49ac163927e6eaa34a46aab0"), looks := true }, kinds := [], alts := [], laidByText := true, laidKinds := [.data, .data, .data, .sentinel, .sentinel], laidTests := true, laidLooks := .later }
def TreeKeepsCardSaid : Prop := Claim7.holds Tryz.pinned (.plain (OpenSpec.ofChange treeKeepsSpec)) treeKeepsCard

/-- THE TIED CARD OF 'marginalialaw.TreeBack'. -/
def treeBackCard : Claim7 := { stood := { row := treeBackRow, standIns := [], harness := (true, "b08805be5ce4a06be192c98d40f602126357f38f49ac163927e6eaa34a46aab0"), looks := true }, kinds := [], alts := [], laidByText := true, laidKinds := [.data, .data, .data, .sentinel, .sentinel], laidTests := true, laidLooks := .later }
def TreeBackCardSaid : Prop := Claim7.holds Tryz.pinned (.plain (OpenSpec.ofChange treeBackSpec)) treeBackCard

/-- THE TIED CARD OF 'marginalialaw.TreeWalls'. -/
def treeWallsCard : Claim7 := { stood := { row := treeWallsRow, standIns := [], harness := (true, "b08805be5ce4a06be192c98d40f602126357f38f49ac163927e6eaa34a46aab0"), looks := true }, kinds := [], alts := [], laidByText := true, laidKinds := [.data, .data, .data, .sentinel, .sentinel], laidTests := true, laidLooks := .later }
def TreeWallsCardSaid : Prop := Claim7.holds Tryz.pinned (.plain (OpenSpec.ofChange treeWallsSpec)) treeWallsCard

/-- THE SECOND FORM's CARD OF 'marginalialaw.TreeKeeps'. -/
def treeKeepsUptoCard : Claim7 := { stood := { row := treeKeepsUptoRow, standIns := [], harness := (true, "b08805be5ce4a06be192c98d40f602126357f38f49ac163927e6eaa34a46aab0"), looks := true }, kinds := [], alts := [], laidByText := true, laidKinds := [.data, .data, .data, .sentinel, .sentinel], laidTests := true, laidLooks := .later }
def TreeKeepsUptoCardSaid : Prop := Claim7.holds Tryz.pinned (.plain (OpenSpec.upto treeKeepsSpec)) treeKeepsUptoCard

/-- THE SECOND FORM's CARD OF 'marginalialaw.TreeBack'. -/
def treeBackUptoCard : Claim7 := { stood := { row := treeBackUptoRow, standIns := [], harness := (true, "b08805be5ce4a06be192c98d40f602126357f38f49ac163927e6eaa34a46aab0"), looks := true }, kinds := [], alts := [], laidByText := true, laidKinds := [.data, .data, .data, .sentinel, .sentinel], laidTests := true, laidLooks := .later }
def TreeBackUptoCardSaid : Prop := Claim7.holds Tryz.pinned (.plain (OpenSpec.upto treeBackSpec)) treeBackUptoCard

/-- THE SECOND FORM's CARD OF 'marginalialaw.TreeWalls'. -/
def treeWallsUptoCard : Claim7 := { stood := { row := treeWallsUptoRow, standIns := [], harness := (true, "b08805be5ce4a06be192c98d40f602126357f38f49ac163927e6eaa34a46aab0"), looks := true }, kinds := [], alts := [], laidByText := true, laidKinds := [.data, .data, .data, .sentinel, .sentinel], laidTests := true, laidLooks := .later }
def TreeWallsUptoCardSaid : Prop := Claim7.holds Tryz.pinned (.plain (OpenSpec.upto treeWallsSpec)) treeWallsUptoCard
end Rows
end Go.Proofs.YtlhodanmccpkdaaGreatDoor

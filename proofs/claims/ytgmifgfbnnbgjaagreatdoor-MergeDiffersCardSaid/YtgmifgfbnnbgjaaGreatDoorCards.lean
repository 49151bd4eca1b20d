/-
  DERIVED. GIVEN WITH THE SEED: THE CARDS: each row of YtgmifgfbnnbgjaaGreatDoorRows.lean that lists a variable, with what it lists TIED to the program's text (the seventh form; the later family's looks); each row that meets fmt, with fmt's text TOLD by the authors' own Lean function (tested against real Go, not proved from fmt's source: count such statements apart). THE CARD IS WHAT COUNTS. Prove the row's statement (the work); the ties are given (YtgmifgfbnnbgjaaGreatDoorTie.lean); close each card by the builder's one call (the guide's Derived/Test/ToyasCard.lean, 'card_holds'). Laid BY PROGRAM, IN A SANDBOX (cutbox-door.mjs). By AI agents, Wed Nov 11 2026. No macro, syntax, notation, axiom, sorry.
-/
import Derived.Test.YtgmifgfbnnbgjaaGreatDoorRows
import GoSem.ClaimSeven
namespace Go.Proofs.YtgmifgfbnnbgjaaGreatDoor
namespace Rows

/-- THE TIED CARD OF 'mapsheetslaw29.MergeDiffers'. -/
def mergeDiffersCard : Claim7 := { stood := { row := mergeDiffersRow, standIns := [], harness := (true, "2b3faeedd837b0f4171598f9b26e4a33f9526473e9f459f05c06ad8d9bf8fcd8"), looks := false }, kinds := [], alts := [], laidByText := true, laidKinds := [.data], laidTests := true, laidLooks := .later }
def MergeDiffersCardSaid : Prop := Claim7.holds Tryz.pinned (.plain (OpenSpec.ofChange mergeDiffersSpec)) mergeDiffersCard

/-- THE TIED CARD OF 'mapsheetslaw29.MergeConflicts'. -/
def mergeConflictsCard : Claim7 := { stood := { row := mergeConflictsRow, standIns := [], harness := (true, "2b3faeedd837b0f4171598f9b26e4a33f9526473e9f459f05c06ad8d9bf8fcd8"), looks := false }, kinds := [], alts := [], laidByText := true, laidKinds := [.data], laidTests := true, laidLooks := .later }
def MergeConflictsCardSaid : Prop := Claim7.holds Tryz.pinned (.plain (OpenSpec.ofChange mergeConflictsSpec)) mergeConflictsCard

/-- THE SECOND FORM's CARD OF 'mapsheetslaw29.MergeDiffers'. -/
def mergeDiffersUptoCard : Claim7 := { stood := { row := mergeDiffersUptoRow, standIns := [], harness := (true, "2b3faeedd837b0f4171598f9b26e4a33f9526473e9f459f05c06ad8d9bf8fcd8"), looks := false }, kinds := [], alts := [], laidByText := true, laidKinds := [.data], laidTests := true, laidLooks := .later }
def MergeDiffersUptoCardSaid : Prop := Claim7.holds Tryz.pinned (.plain (OpenSpec.upto mergeDiffersSpec)) mergeDiffersUptoCard

/-- THE SECOND FORM's CARD OF 'mapsheetslaw29.MergeConflicts'. -/
def mergeConflictsUptoCard : Claim7 := { stood := { row := mergeConflictsUptoRow, standIns := [], harness := (true, "2b3faeedd837b0f4171598f9b26e4a33f9526473e9f459f05c06ad8d9bf8fcd8"), looks := false }, kinds := [], alts := [], laidByText := true, laidKinds := [.data], laidTests := true, laidLooks := .later }
def MergeConflictsUptoCardSaid : Prop := Claim7.holds Tryz.pinned (.plain (OpenSpec.upto mergeConflictsSpec)) mergeConflictsUptoCard
end Rows
end Go.Proofs.YtgmifgfbnnbgjaaGreatDoor

/-
  DERIVED. GIVEN WITH THE SEED: THE CARDS: each row of YtjibdelmjcenhaaGreatDoorRows.lean that lists a variable, with what it lists TIED to the program's text (the seventh form; the later family's looks); each row that meets fmt, with fmt's text TOLD by the authors' own Lean function (tested against real Go, not proved from fmt's source: count such statements apart). THE CARD IS WHAT COUNTS. Prove the row's statement (the work); the ties are given (YtjibdelmjcenhaaGreatDoorTie.lean); close each card by the builder's one call (the guide's Derived/Test/ToyasCard.lean, 'card_holds'). Laid BY PROGRAM, IN A SANDBOX (cutbox-door.mjs). By AI agents, Wed Nov 11 2026. No macro, syntax, notation, axiom, sorry.
-/
import Derived.Test.YtjibdelmjcenhaaGreatDoorRows
import GoSem.ClaimSeven
namespace Go.Proofs.YtjibdelmjcenhaaGreatDoor
namespace Rows

/-- THE TIED CARD OF 'mapsheetslaw29.MergeThree'. -/
def mergeThreeCard : Claim7 := { stood := { row := mergeThreeRow, standIns := [], harness := (true, "3f45e5aef98b0ed60c17a8d7f4bce580c2b88a0b3fa82bd1d9d746604eb20293"), looks := false }, kinds := [], alts := [], laidByText := true, laidKinds := [.data], laidTests := true, laidLooks := .later }
def MergeThreeCardSaid : Prop := Claim7.holds Tryz.pinned (.plain (OpenSpec.ofChange mergeThreeSpec)) mergeThreeCard

/-- THE TIED CARD OF 'mapsheetslaw29.MergeSides'. -/
def mergeSidesCard : Claim7 := { stood := { row := mergeSidesRow, standIns := [], harness := (true, "3f45e5aef98b0ed60c17a8d7f4bce580c2b88a0b3fa82bd1d9d746604eb20293"), looks := false }, kinds := [], alts := [], laidByText := true, laidKinds := [.data], laidTests := true, laidLooks := .later }
def MergeSidesCardSaid : Prop := Claim7.holds Tryz.pinned (.plain (OpenSpec.ofChange mergeSidesSpec)) mergeSidesCard

/-- THE TIED CARD OF 'mapsheetslaw29.MergeSymmetric'. -/
def mergeSymmetricCard : Claim7 := { stood := { row := mergeSymmetricRow, standIns := [], harness := (true, "3f45e5aef98b0ed60c17a8d7f4bce580c2b88a0b3fa82bd1d9d746604eb20293"), looks := false }, kinds := [], alts := [], laidByText := true, laidKinds := [.data], laidTests := true, laidLooks := .later }
def MergeSymmetricCardSaid : Prop := Claim7.holds Tryz.pinned (.plain (OpenSpec.ofChange mergeSymmetricSpec)) mergeSymmetricCard

/-- THE TIED CARD OF 'mapsheetslaw29.MergeConflicts'. -/
def mergeConflictsCard : Claim7 := { stood := { row := mergeConflictsRow, standIns := [], harness := (true, "3f45e5aef98b0ed60c17a8d7f4bce580c2b88a0b3fa82bd1d9d746604eb20293"), looks := false }, kinds := [], alts := [], laidByText := true, laidKinds := [.data], laidTests := true, laidLooks := .later }
def MergeConflictsCardSaid : Prop := Claim7.holds Tryz.pinned (.plain (OpenSpec.ofChange mergeConflictsSpec)) mergeConflictsCard

/-- THE SECOND FORM's CARD OF 'mapsheetslaw29.MergeThree'. -/
def mergeThreeUptoCard : Claim7 := { stood := { row := mergeThreeUptoRow, standIns := [], harness := (true, "3f45e5aef98b0ed60c17a8d7f4bce580c2b88a0b3fa82bd1d9d746604eb20293"), looks := false }, kinds := [], alts := [], laidByText := true, laidKinds := [.data], laidTests := true, laidLooks := .later }
def MergeThreeUptoCardSaid : Prop := Claim7.holds Tryz.pinned (.plain (OpenSpec.upto mergeThreeSpec)) mergeThreeUptoCard

/-- THE SECOND FORM's CARD OF 'mapsheetslaw29.MergeSides'. -/
def mergeSidesUptoCard : Claim7 := { stood := { row := mergeSidesUptoRow, standIns := [], harness := (true, "3f45e5aef98b0ed60c17a8d7f4bce580c2b88a0b3fa82bd1d9d746604eb20293"), looks := false }, kinds := [], alts := [], laidByText := true, laidKinds := [.data], laidTests := true, laidLooks := .later }
def MergeSidesUptoCardSaid : Prop := Claim7.holds Tryz.pinned (.plain (OpenSpec.upto mergeSidesSpec)) mergeSidesUptoCard

/-- THE SECOND FORM's CARD OF 'mapsheetslaw29.MergeSymmetric'. -/
def mergeSymmetricUptoCard : Claim7 := { stood := { row := mergeSymmetricUptoRow, standIns := [], harness := (true, "3f45e5aef98b0ed60c17a8d7f4bce580c2b88a0b3fa82bd1d9d746604eb20293"), looks := false }, kinds := [], alts := [], laidByText := true, laidKinds := [.data], laidTests := true, laidLooks := .later }
def MergeSymmetricUptoCardSaid : Prop := Claim7.holds Tryz.pinned (.plain (OpenSpec.upto mergeSymmetricSpec)) mergeSymmetricUptoCard

/-- THE SECOND FORM's CARD OF 'mapsheetslaw29.MergeConflicts'. -/
def mergeConflictsUptoCard : Claim7 := { stood := { row := mergeConflictsUptoRow, standIns := [], harness := (true, "3f45e5aef98b0ed60c17a8d7f4bce580c2b88a0b3fa82bd1d9d746604eb20293"), looks := false }, kinds := [], alts := [], laidByText := true, laidKinds := [.data], laidTests := true, laidLooks := .later }
def MergeConflictsUptoCardSaid : Prop := Claim7.holds Tryz.pinned (.plain (OpenSpec.upto mergeConflictsSpec)) mergeConflictsUptoCard
end Rows
end Go.Proofs.YtjibdelmjcenhaaGreatDoor

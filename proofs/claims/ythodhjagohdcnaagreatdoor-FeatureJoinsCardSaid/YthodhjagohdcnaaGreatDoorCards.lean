/-
  DERIVED. GIVEN WITH THE SEED: THE CARDS: each row of YthodhjagohdcnaaGreatDoorRows.lean that lists a variable, with what it lists TIED to the program's text (the seventh form; the later family's looks); each row that meets fmt, with fmt's text TOLD by the authors' own Lean function (tested against real Go, not proved from fmt's source: count such statements apart). THE CARD IS WHAT COUNTS. Prove the row's statement (the work); the ties are given (YthodhjagohdcnaaGreatDoorTie.lean); close each card by the builder's one call (the guide's Derived/Test/ToyasCard.lean, 'card_holds'). Laid BY PROGRAM, IN A SANDBOX (cutbox-door.mjs). By AI agents, Wed Nov 11 2026. No macro, syntax, notation, axiom, sorry.
-/
import Derived.Test.YthodhjagohdcnaaGreatDoorRows
import GoSem.ClaimSeven
namespace Go.Proofs.YthodhjagohdcnaaGreatDoor
namespace Rows

/-- THE TIED CARD OF 'mapsheetslaw17.FeatureAreas'. -/
def featureAreasCard : Claim7 := { stood := { row := featureAreasRow, standIns := [], harness := (true, "d7e5a09e1636c4288f065d7bcc58550534660a9eb4a52de8930fc41d66a8ac4a"), looks := false }, kinds := [], alts := [], laidByText := true, laidKinds := [.data], laidTests := true, laidLooks := .later }
def FeatureAreasCardSaid : Prop := Claim7.holds Tryz.pinned (.plain (OpenSpec.ofChange featureAreasSpec)) featureAreasCard

/-- THE TIED CARD OF 'mapsheetslaw17.FeatureUses'. -/
def featureUsesCard : Claim7 := { stood := { row := featureUsesRow, standIns := [], harness := (true, "d7e5a09e1636c4288f065d7bcc58550534660a9eb4a52de8930fc41d66a8ac4a"), looks := false }, kinds := [], alts := [], laidByText := true, laidKinds := [.data], laidTests := true, laidLooks := .later }
def FeatureUsesCardSaid : Prop := Claim7.holds Tryz.pinned (.plain (OpenSpec.ofChange featureUsesSpec)) featureUsesCard

/-- THE TIED CARD OF 'mapsheetslaw17.FeatureBoxes'. -/
def featureBoxesCard : Claim7 := { stood := { row := featureBoxesRow, standIns := [], harness := (true, "d7e5a09e1636c4288f065d7bcc58550534660a9eb4a52de8930fc41d66a8ac4a"), looks := false }, kinds := [], alts := [], laidByText := true, laidKinds := [.data], laidTests := true, laidLooks := .later }
def FeatureBoxesCardSaid : Prop := Claim7.holds Tryz.pinned (.plain (OpenSpec.ofChange featureBoxesSpec)) featureBoxesCard

/-- THE TIED CARD OF 'mapsheetslaw17.FeatureDrops'. -/
def featureDropsCard : Claim7 := { stood := { row := featureDropsRow, standIns := [], harness := (true, "d7e5a09e1636c4288f065d7bcc58550534660a9eb4a52de8930fc41d66a8ac4a"), looks := false }, kinds := [], alts := [], laidByText := true, laidKinds := [.data], laidTests := true, laidLooks := .later }
def FeatureDropsCardSaid : Prop := Claim7.holds Tryz.pinned (.plain (OpenSpec.ofChange featureDropsSpec)) featureDropsCard

/-- THE TIED CARD OF 'mapsheetslaw17.FeatureJoins'. -/
def featureJoinsCard : Claim7 := { stood := { row := featureJoinsRow, standIns := [], harness := (true, "d7e5a09e1636c4288f065d7bcc58550534660a9eb4a52de8930fc41d66a8ac4a"), looks := false }, kinds := [], alts := [], laidByText := true, laidKinds := [.data], laidTests := true, laidLooks := .later }
def FeatureJoinsCardSaid : Prop := Claim7.holds Tryz.pinned (.plain (OpenSpec.ofChange featureJoinsSpec)) featureJoinsCard

/-- THE SECOND FORM's CARD OF 'mapsheetslaw17.FeatureAreas'. -/
def featureAreasUptoCard : Claim7 := { stood := { row := featureAreasUptoRow, standIns := [], harness := (true, "d7e5a09e1636c4288f065d7bcc58550534660a9eb4a52de8930fc41d66a8ac4a"), looks := false }, kinds := [], alts := [], laidByText := true, laidKinds := [.data], laidTests := true, laidLooks := .later }
def FeatureAreasUptoCardSaid : Prop := Claim7.holds Tryz.pinned (.plain (OpenSpec.upto featureAreasSpec)) featureAreasUptoCard

/-- THE SECOND FORM's CARD OF 'mapsheetslaw17.FeatureUses'. -/
def featureUsesUptoCard : Claim7 := { stood := { row := featureUsesUptoRow, standIns := [], harness := (true, "d7e5a09e1636c4288f065d7bcc58550534660a9eb4a52de8930fc41d66a8ac4a"), looks := false }, kinds := [], alts := [], laidByText := true, laidKinds := [.data], laidTests := true, laidLooks := .later }
def FeatureUsesUptoCardSaid : Prop := Claim7.holds Tryz.pinned (.plain (OpenSpec.upto featureUsesSpec)) featureUsesUptoCard

/-- THE SECOND FORM's CARD OF 'mapsheetslaw17.FeatureBoxes'. -/
def featureBoxesUptoCard : Claim7 := { stood := { row := featureBoxesUptoRow, standIns := [], harness := (true, "d7e5a09e1636c4288f065d7bcc58550534660a9eb4a52de8930fc41d66a8ac4a"), looks := false }, kinds := [], alts := [], laidByText := true, laidKinds := [.data], laidTests := true, laidLooks := .later }
def FeatureBoxesUptoCardSaid : Prop := Claim7.holds Tryz.pinned (.plain (OpenSpec.upto featureBoxesSpec)) featureBoxesUptoCard

/-- THE SECOND FORM's CARD OF 'mapsheetslaw17.FeatureDrops'. -/
def featureDropsUptoCard : Claim7 := { stood := { row := featureDropsUptoRow, standIns := [], harness := (true, "d7e5a09e1636c4288f065d7bcc58550534660a9eb4a52de8930fc41d66a8ac4a"), looks := false }, kinds := [], alts := [], laidByText := true, laidKinds := [.data], laidTests := true, laidLooks := .later }
def FeatureDropsUptoCardSaid : Prop := Claim7.holds Tryz.pinned (.plain (OpenSpec.upto featureDropsSpec)) featureDropsUptoCard

/-- THE SECOND FORM's CARD OF 'mapsheetslaw17.FeatureJoins'. -/
def featureJoinsUptoCard : Claim7 := { stood := { row := featureJoinsUptoRow, standIns := [], harness := (true, "d7e5a09e1636c4288f065d7bcc58550534660a9eb4a52de8930fc41d66a8ac4a"), looks := false }, kinds := [], alts := [], laidByText := true, laidKinds := [.data], laidTests := true, laidLooks := .later }
def FeatureJoinsUptoCardSaid : Prop := Claim7.holds Tryz.pinned (.plain (OpenSpec.upto featureJoinsSpec)) featureJoinsUptoCard
end Rows
end Go.Proofs.YthodhjagohdcnaaGreatDoor

/-
  DERIVED. GIVEN WITH THE SEED: THE CARDS: each row of YtiiofgieclfikaaGreatDoorRows.lean that lists a variable, with what it lists TIED to the program's text (the seventh form; the later family's looks); each row that meets fmt, with fmt's text TOLD by the authors' own Lean function (tested against real Go, not proved from fmt's source: count such statements apart). THE CARD IS WHAT COUNTS. Prove the row's statement (the work); the ties are given (YtiiofgieclfikaaGreatDoorTie.lean); close each card by the builder's one call (the guide's Derived/Test/ToyasCard.lean, 'card_holds'). Laid BY PROGRAM, IN A SANDBOX (cutbox-door.mjs). By AI agents, Wed Nov 11 2026. No macro, syntax, notation, axiom, sorry.
-/
import Derived.Test.YtiiofgieclfikaaGreatDoorRows
import GoSem.ClaimSeven
namespace Go.Proofs.YtiiofgieclfikaaGreatDoor
namespace Rows

/-- THE TIED CARD OF 'mapsheetslaw17.FeatureDrops'. -/
def featureDropsCard : Claim7 := { stood := { row := featureDropsRow, standIns := [], harness := (true, "efd36b33e128632bcf84851a3f4aead0c7156fe7a41e35617ca9a47aa29850ac"), looks := false }, kinds := [], alts := [], laidByText := true, laidKinds := [.data], laidTests := true, laidLooks := .later }
def FeatureDropsCardSaid : Prop := Claim7.holds Tryz.pinned (.plain (OpenSpec.ofChange featureDropsSpec)) featureDropsCard

/-- THE SECOND FORM's CARD OF 'mapsheetslaw17.FeatureDrops'. -/
def featureDropsUptoCard : Claim7 := { stood := { row := featureDropsUptoRow, standIns := [], harness := (true, "efd36b33e128632bcf84851a3f4aead0c7156fe7a41e35617ca9a47aa29850ac"), looks := false }, kinds := [], alts := [], laidByText := true, laidKinds := [.data], laidTests := true, laidLooks := .later }
def FeatureDropsUptoCardSaid : Prop := Claim7.holds Tryz.pinned (.plain (OpenSpec.upto featureDropsSpec)) featureDropsUptoCard
end Rows
end Go.Proofs.YtiiofgieclfikaaGreatDoor

/-
  DERIVED. GIVEN WITH THE SEED: THE CARDS: each row of YtelocmclpfincaaGreatDoorRows.lean that lists a variable, with what it lists TIED to the program's text (the seventh form; the later family's looks); each row that meets fmt, with fmt's text TOLD by the authors' own Lean function (tested against real Go, not proved from fmt's source: count such statements apart). THE CARD IS WHAT COUNTS. Prove the row's statement (the work); the ties are given (YtelocmclpfincaaGreatDoorTie.lean); close each card by the builder's one call (the guide's Derived/Test/ToyasCard.lean, 'card_holds'). Laid BY PROGRAM, IN A SANDBOX (cutbox-door.mjs). By AI agents, Wed Nov 11 2026. No macro, syntax, notation, axiom, sorry.
-/
import Derived.Test.YtelocmclpfincaaGreatDoorRows
import GoSem.ClaimSeven
namespace Go.Proofs.YtelocmclpfincaaGreatDoor
namespace Rows

/-- THE TIED CARD OF 'mapsheetslaw17.FeatureAreas'. -/
def featureAreasCard : Claim7 := { stood := { row := featureAreasRow, standIns := [], harness := (true, "5bebc851dc1438784f143dab93dc32ffbb218a7955b125afe6dfaec68813b3a6"), looks := false }, kinds := [], alts := [], laidByText := true, laidKinds := [.data], laidTests := true, laidLooks := .later }
def FeatureAreasCardSaid : Prop := Claim7.holds Tryz.pinned (.plain (OpenSpec.ofChange featureAreasSpec)) featureAreasCard

/-- THE SECOND FORM's CARD OF 'mapsheetslaw17.FeatureAreas'. -/
def featureAreasUptoCard : Claim7 := { stood := { row := featureAreasUptoRow, standIns := [], harness := (true, "5bebc851dc1438784f143dab93dc32ffbb218a7955b125afe6dfaec68813b3a6"), looks := false }, kinds := [], alts := [], laidByText := true, laidKinds := [.data], laidTests := true, laidLooks := .later }
def FeatureAreasUptoCardSaid : Prop := Claim7.holds Tryz.pinned (.plain (OpenSpec.upto featureAreasSpec)) featureAreasUptoCard
end Rows
end Go.Proofs.YtelocmclpfincaaGreatDoor

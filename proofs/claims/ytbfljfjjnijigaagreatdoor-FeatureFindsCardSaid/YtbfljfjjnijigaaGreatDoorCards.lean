/-
  DERIVED. GIVEN WITH THE SEED: THE CARDS: each row of YtbfljfjjnijigaaGreatDoorRows.lean that lists a variable, with what it lists TIED to the program's text (the seventh form; the later family's looks); each row that meets fmt, with fmt's text TOLD by the authors' own Lean function (tested against real Go, not proved from fmt's source: count such statements apart). THE CARD IS WHAT COUNTS. Prove the row's statement (the work); the ties are given (YtbfljfjjnijigaaGreatDoorTie.lean); close each card by the builder's one call (the guide's Derived/Test/ToyasCard.lean, 'card_holds'). Laid BY PROGRAM, IN A SANDBOX (cutbox-door.mjs). By AI agents, Wed Nov 11 2026. No macro, syntax, notation, axiom, sorry.
-/
import Derived.Test.YtbfljfjjnijigaaGreatDoorRows
import GoSem.ClaimSeven
namespace Go.Proofs.YtbfljfjjnijigaaGreatDoor
namespace Rows

/-- THE TIED CARD OF 'mapsheetslaw17.FeatureFinds'. -/
def featureFindsCard : Claim7 := { stood := { row := featureFindsRow, standIns := [], harness := (true, "932c2c106295d6793ce3f467e15a12020345d066c1023625877bc911dd5571b0"), looks := false }, kinds := [], alts := [], laidByText := true, laidKinds := [.data], laidTests := true, laidLooks := .later }
def FeatureFindsCardSaid : Prop := Claim7.holds Tryz.pinned (.plain (OpenSpec.ofChange featureFindsSpec)) featureFindsCard

/-- THE SECOND FORM's CARD OF 'mapsheetslaw17.FeatureFinds'. -/
def featureFindsUptoCard : Claim7 := { stood := { row := featureFindsUptoRow, standIns := [], harness := (true, "932c2c106295d6793ce3f467e15a12020345d066c1023625877bc911dd5571b0"), looks := false }, kinds := [], alts := [], laidByText := true, laidKinds := [.data], laidTests := true, laidLooks := .later }
def FeatureFindsUptoCardSaid : Prop := Claim7.holds Tryz.pinned (.plain (OpenSpec.upto featureFindsSpec)) featureFindsUptoCard
end Rows
end Go.Proofs.YtbfljfjjnijigaaGreatDoor

/-
  DERIVED. GIVEN WITH THE SEED: THE CARDS: each row of YtdacpmgnhkmnkaaGreatDoorRows.lean that lists a variable, with what it lists TIED to the program's text (the seventh form; the later family's looks); each row that meets fmt, with fmt's text TOLD by the authors' own Lean function (tested against real Go, not proved from fmt's source: count such statements apart). THE CARD IS WHAT COUNTS. Prove the row's statement (the work); the ties are given (YtdacpmgnhkmnkaaGreatDoorTie.lean); close each card by the builder's one call (the guide's Derived/Test/ToyasCard.lean, 'card_holds'). Laid BY PROGRAM, IN A SANDBOX (cutbox-door.mjs). By AI agents, Wed Nov 11 2026. No macro, syntax, notation, axiom, sorry.
-/
import Derived.Test.YtdacpmgnhkmnkaaGreatDoorRows
import GoSem.ClaimSeven
namespace Go.Proofs.YtdacpmgnhkmnkaaGreatDoor
namespace Rows

/-- THE TIED CARD OF 'mapsheetslaw17.FeatureChecks'. -/
def featureChecksCard : Claim7 := { stood := { row := featureChecksRow, standIns := [], harness := (true, "9ac931a890cb47db42880c9db3f28986db69ad9240a23d5370bef91252b6d382"), looks := false }, kinds := [], alts := [], laidByText := true, laidKinds := [.data], laidTests := true, laidLooks := .later }
def FeatureChecksCardSaid : Prop := Claim7.holds Tryz.pinned (.plain (OpenSpec.ofChange featureChecksSpec)) featureChecksCard

/-- THE TIED CARD OF 'mapsheetslaw17.FeatureSums'. -/
def featureSumsCard : Claim7 := { stood := { row := featureSumsRow, standIns := [], harness := (true, "9ac931a890cb47db42880c9db3f28986db69ad9240a23d5370bef91252b6d382"), looks := false }, kinds := [], alts := [], laidByText := true, laidKinds := [.data], laidTests := true, laidLooks := .later }
def FeatureSumsCardSaid : Prop := Claim7.holds Tryz.pinned (.plain (OpenSpec.ofChange featureSumsSpec)) featureSumsCard

/-- THE SECOND FORM's CARD OF 'mapsheetslaw17.FeatureChecks'. -/
def featureChecksUptoCard : Claim7 := { stood := { row := featureChecksUptoRow, standIns := [], harness := (true, "9ac931a890cb47db42880c9db3f28986db69ad9240a23d5370bef91252b6d382"), looks := false }, kinds := [], alts := [], laidByText := true, laidKinds := [.data], laidTests := true, laidLooks := .later }
def FeatureChecksUptoCardSaid : Prop := Claim7.holds Tryz.pinned (.plain (OpenSpec.upto featureChecksSpec)) featureChecksUptoCard

/-- THE SECOND FORM's CARD OF 'mapsheetslaw17.FeatureSums'. -/
def featureSumsUptoCard : Claim7 := { stood := { row := featureSumsUptoRow, standIns := [], harness := (true, "9ac931a890cb47db42880c9db3f28986db69ad9240a23d5370bef91252b6d382"), looks := false }, kinds := [], alts := [], laidByText := true, laidKinds := [.data], laidTests := true, laidLooks := .later }
def FeatureSumsUptoCardSaid : Prop := Claim7.holds Tryz.pinned (.plain (OpenSpec.upto featureSumsSpec)) featureSumsUptoCard
end Rows
end Go.Proofs.YtdacpmgnhkmnkaaGreatDoor

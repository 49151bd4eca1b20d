/-
  DERIVED. GIVEN WITH THE SEED: THE CARDS: each row of YtcbobceggjndlaaGreatDoorRows.lean that lists a variable, with what it lists TIED to the program's text (the seventh form; the later family's looks); each row that meets fmt, with fmt's text TOLD by the authors' own Lean function (tested against real Go, not proved from fmt's source: count such statements apart). THE CARD IS WHAT COUNTS. Prove the row's statement (the work); the ties are given (YtcbobceggjndlaaGreatDoorTie.lean); close each card by the builder's one call (the guide's Derived/Test/ToyasCard.lean, 'card_holds'). Laid BY PROGRAM, IN A SANDBOX (cutbox-door.mjs). By AI agents, Wed Nov 11 2026. No macro, syntax, notation, axiom, sorry.
-/
import Derived.Test.YtcbobceggjndlaaGreatDoorRows
import GoSem.ClaimSeven
namespace Go.Proofs.YtcbobceggjndlaaGreatDoor
namespace Rows

/-- THE TIED CARD OF 'mapsheetslaw52.GazetteerChecks'. -/
def gazetteerChecksCard : Claim7 := { stood := { row := gazetteerChecksRow, standIns := [], harness := (true, "5079c68f68624b9a3752995700297c0d219c4d728a0cba71c303b92b6cf59cac"), looks := false }, kinds := [], alts := [], laidByText := true, laidKinds := [.data, .data, .data, .data], laidTests := true, laidLooks := .later }
def GazetteerChecksCardSaid : Prop := Claim7.holds Tryz.pinned (.plain (OpenSpec.ofChange gazetteerChecksSpec)) gazetteerChecksCard

/-- THE SECOND FORM's CARD OF 'mapsheetslaw52.GazetteerChecks'. -/
def gazetteerChecksUptoCard : Claim7 := { stood := { row := gazetteerChecksUptoRow, standIns := [], harness := (true, "5079c68f68624b9a3752995700297c0d219c4d728a0cba71c303b92b6cf59cac"), looks := false }, kinds := [], alts := [], laidByText := true, laidKinds := [.data, .data, .data, .data], laidTests := true, laidLooks := .later }
def GazetteerChecksUptoCardSaid : Prop := Claim7.holds Tryz.pinned (.plain (OpenSpec.upto gazetteerChecksSpec)) gazetteerChecksUptoCard
end Rows
end Go.Proofs.YtcbobceggjndlaaGreatDoor

/-
  DERIVED. GIVEN WITH THE SEED: THE CARDS: each row of YtmmkgdindbdckaaGreatDoorRows.lean that lists a variable, with what it lists TIED to the program's text (the seventh form; the later family's looks); each row that meets fmt, with fmt's text TOLD by the authors' own Lean function (tested against real Go, not proved from fmt's source: count such statements apart). THE CARD IS WHAT COUNTS. Prove the row's statement (the work); the ties are given (YtmmkgdindbdckaaGreatDoorTie.lean); close each card by the builder's one call (the guide's Derived/Test/ToyasCard.lean, 'card_holds'). Laid BY PROGRAM, IN A SANDBOX (cutbox-door.mjs). By AI agents, Wed Nov 11 2026. No macro, syntax, notation, axiom, sorry.
-/
import Derived.Test.YtmmkgdindbdckaaGreatDoorRows
import GoSem.ClaimSeven
namespace Go.Proofs.YtmmkgdindbdckaaGreatDoor
namespace Rows

/-- THE TIED CARD OF 'mapsheetslaw47.CandidateEight'. -/
def candidateEightCard : Claim7 := { stood := { row := candidateEightRow, standIns := [], harness := (true, "8392fbee27516a504f5cf2ce964cb2864758976c3038976b6cfb63b62478c9b0"), looks := false }, kinds := [], alts := [], laidByText := true, laidKinds := [.data], laidTests := true, laidLooks := .later }
def CandidateEightCardSaid : Prop := Claim7.holds Tryz.pinned (.plain (OpenSpec.ofChange candidateEightSpec)) candidateEightCard

/-- THE SECOND FORM's CARD OF 'mapsheetslaw47.CandidateEight'. -/
def candidateEightUptoCard : Claim7 := { stood := { row := candidateEightUptoRow, standIns := [], harness := (true, "8392fbee27516a504f5cf2ce964cb2864758976c3038976b6cfb63b62478c9b0"), looks := false }, kinds := [], alts := [], laidByText := true, laidKinds := [.data], laidTests := true, laidLooks := .later }
def CandidateEightUptoCardSaid : Prop := Claim7.holds Tryz.pinned (.plain (OpenSpec.upto candidateEightSpec)) candidateEightUptoCard
end Rows
end Go.Proofs.YtmmkgdindbdckaaGreatDoor

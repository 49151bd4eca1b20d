/-
  DERIVED. GIVEN WITH THE SEED: THE CARDS: each row of YtdbhijkfhcgojaaGreatDoorRows.lean that lists a variable, with what it lists TIED to the program's text (the seventh form; the later family's looks); each row that meets fmt, with fmt's text TOLD by the authors' own Lean function (tested against real Go, not proved from fmt's source: count such statements apart). THE CARD IS WHAT COUNTS. Prove the row's statement (the work); the ties are given (YtdbhijkfhcgojaaGreatDoorTie.lean); close each card by the builder's one call (the guide's Derived/Test/ToyasCard.lean, 'card_holds'). Laid BY PROGRAM, IN A SANDBOX (cutbox-door.mjs). By AI agents, Wed Nov 11 2026. No macro, syntax, notation, axiom, sorry.
-/
import Derived.Test.YtdbhijkfhcgojaaGreatDoorRows
import GoSem.ClaimSeven
namespace Go.Proofs.YtdbhijkfhcgojaaGreatDoor
namespace Rows

/-- THE TIED CARD OF 'mapsheetslaw46.SymbolChecks'. -/
def symbolChecksCard : Claim7 := { stood := { row := symbolChecksRow, standIns := [], harness := (true, "f5d2b88506288fd5410e6064a93b1dbd65afb5902c6a2861b458d746e9cbbd53"), looks := false }, kinds := [], alts := [], laidByText := true, laidKinds := [.data], laidTests := true, laidLooks := .later }
def SymbolChecksCardSaid : Prop := Claim7.holds Tryz.pinned (.plain (OpenSpec.ofChange symbolChecksSpec)) symbolChecksCard

/-- THE TIED CARD OF 'mapsheetslaw46.SymbolFits'. -/
def symbolFitsCard : Claim7 := { stood := { row := symbolFitsRow, standIns := [], harness := (true, "f5d2b88506288fd5410e6064a93b1dbd65afb5902c6a2861b458d746e9cbbd53"), looks := false }, kinds := [], alts := [], laidByText := true, laidKinds := [.data], laidTests := true, laidLooks := .later }
def SymbolFitsCardSaid : Prop := Claim7.holds Tryz.pinned (.plain (OpenSpec.ofChange symbolFitsSpec)) symbolFitsCard

/-- THE TIED CARD OF 'mapsheetslaw46.SymbolChosen'. -/
def symbolChosenCard : Claim7 := { stood := { row := symbolChosenRow, standIns := [], harness := (true, "f5d2b88506288fd5410e6064a93b1dbd65afb5902c6a2861b458d746e9cbbd53"), looks := false }, kinds := [], alts := [], laidByText := true, laidKinds := [.data], laidTests := true, laidLooks := .later }
def SymbolChosenCardSaid : Prop := Claim7.holds Tryz.pinned (.plain (OpenSpec.ofChange symbolChosenSpec)) symbolChosenCard

/-- THE SECOND FORM's CARD OF 'mapsheetslaw46.SymbolChecks'. -/
def symbolChecksUptoCard : Claim7 := { stood := { row := symbolChecksUptoRow, standIns := [], harness := (true, "f5d2b88506288fd5410e6064a93b1dbd65afb5902c6a2861b458d746e9cbbd53"), looks := false }, kinds := [], alts := [], laidByText := true, laidKinds := [.data], laidTests := true, laidLooks := .later }
def SymbolChecksUptoCardSaid : Prop := Claim7.holds Tryz.pinned (.plain (OpenSpec.upto symbolChecksSpec)) symbolChecksUptoCard

/-- THE SECOND FORM's CARD OF 'mapsheetslaw46.SymbolFits'. -/
def symbolFitsUptoCard : Claim7 := { stood := { row := symbolFitsUptoRow, standIns := [], harness := (true, "f5d2b88506288fd5410e6064a93b1dbd65afb5902c6a2861b458d746e9cbbd53"), looks := false }, kinds := [], alts := [], laidByText := true, laidKinds := [.data], laidTests := true, laidLooks := .later }
def SymbolFitsUptoCardSaid : Prop := Claim7.holds Tryz.pinned (.plain (OpenSpec.upto symbolFitsSpec)) symbolFitsUptoCard

/-- THE SECOND FORM's CARD OF 'mapsheetslaw46.SymbolChosen'. -/
def symbolChosenUptoCard : Claim7 := { stood := { row := symbolChosenUptoRow, standIns := [], harness := (true, "f5d2b88506288fd5410e6064a93b1dbd65afb5902c6a2861b458d746e9cbbd53"), looks := false }, kinds := [], alts := [], laidByText := true, laidKinds := [.data], laidTests := true, laidLooks := .later }
def SymbolChosenUptoCardSaid : Prop := Claim7.holds Tryz.pinned (.plain (OpenSpec.upto symbolChosenSpec)) symbolChosenUptoCard
end Rows
end Go.Proofs.YtdbhijkfhcgojaaGreatDoor

/-
  DERIVED. GIVEN WITH THE SEED: THE CARDS: each row of YtcjbnmogcmaehaaGreatDoorRows.lean that lists a variable, with what it lists TIED to the program's text (the seventh form; the later family's looks); each row that meets fmt, with fmt's text TOLD by the authors' own Lean function (tested against real Go, not proved from fmt's source: count such statements apart). THE CARD IS WHAT COUNTS. Prove the row's statement (the work); the ties are given (YtcjbnmogcmaehaaGreatDoorTie.lean); close each card by the builder's one call (the guide's Derived/Test/ToyasCard.lean, 'card_holds'). Laid BY PROGRAM, IN A SANDBOX (cutbox-door.mjs). By AI agents, Wed Nov 11 2026. No macro, syntax, notation, axiom, sorry.
-/
import Derived.Test.YtcjbnmogcmaehaaGreatDoorRows
import GoSem.ClaimSeven
namespace Go.Proofs.YtcjbnmogcmaehaaGreatDoor
namespace Rows

/-- THE TIED CARD OF 'mapsheetslaw46.SymbolGrows'. -/
def symbolGrowsCard : Claim7 := { stood := { row := symbolGrowsRow, standIns := [], harness := (true, "232ba43677b529d61d0424de5a67004a180d5c365a2f1342c70b5198e80115f1"), looks := false }, kinds := [], alts := [], laidByText := true, laidKinds := [.data], laidTests := true, laidLooks := .later }
def SymbolGrowsCardSaid : Prop := Claim7.holds Tryz.pinned (.plain (OpenSpec.ofChange symbolGrowsSpec)) symbolGrowsCard

/-- THE TIED CARD OF 'mapsheetslaw46.SymbolAround'. -/
def symbolAroundCard : Claim7 := { stood := { row := symbolAroundRow, standIns := [], harness := (true, "232ba43677b529d61d0424de5a67004a180d5c365a2f1342c70b5198e80115f1"), looks := false }, kinds := [], alts := [], laidByText := true, laidKinds := [.data], laidTests := true, laidLooks := .later }
def SymbolAroundCardSaid : Prop := Claim7.holds Tryz.pinned (.plain (OpenSpec.ofChange symbolAroundSpec)) symbolAroundCard

/-- THE SECOND FORM's CARD OF 'mapsheetslaw46.SymbolGrows'. -/
def symbolGrowsUptoCard : Claim7 := { stood := { row := symbolGrowsUptoRow, standIns := [], harness := (true, "232ba43677b529d61d0424de5a67004a180d5c365a2f1342c70b5198e80115f1"), looks := false }, kinds := [], alts := [], laidByText := true, laidKinds := [.data], laidTests := true, laidLooks := .later }
def SymbolGrowsUptoCardSaid : Prop := Claim7.holds Tryz.pinned (.plain (OpenSpec.upto symbolGrowsSpec)) symbolGrowsUptoCard

/-- THE SECOND FORM's CARD OF 'mapsheetslaw46.SymbolAround'. -/
def symbolAroundUptoCard : Claim7 := { stood := { row := symbolAroundUptoRow, standIns := [], harness := (true, "232ba43677b529d61d0424de5a67004a180d5c365a2f1342c70b5198e80115f1"), looks := false }, kinds := [], alts := [], laidByText := true, laidKinds := [.data], laidTests := true, laidLooks := .later }
def SymbolAroundUptoCardSaid : Prop := Claim7.holds Tryz.pinned (.plain (OpenSpec.upto symbolAroundSpec)) symbolAroundUptoCard
end Rows
end Go.Proofs.YtcjbnmogcmaehaaGreatDoor

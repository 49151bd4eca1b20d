/-
  DERIVED. GIVEN WITH THE SEED: THE CARDS: each row of YtlcjfphhogcenaaDoorRows.lean that lists a variable, with what it lists TIED to the program's text (the seventh form; the later family's looks); each row that meets fmt, with fmt's text TOLD by the authors' own Lean function (tested against real Go, not proved from fmt's source: count such statements apart). THE CARD IS WHAT COUNTS. Prove the row's statement (the work); the ties are given (YtlcjfphhogcenaaDoorTie.lean); close each card by the builder's one call (the guide's Derived/Test/ToyasCard.lean, 'card_holds'). Laid BY PROGRAM, IN A SANDBOX (cutbox-door.mjs). By AI agents, Wed Nov 11 2026. No macro, syntax, notation, axiom, sorry.
-/
import Derived.Test.YtlcjfphhogcenaaDoorRows
import GoSem.ClaimSeven
namespace Go.Proofs.YtlcjfphhogcenaaDoor
namespace Rows

/-- THE TIED CARD OF 'mapsheetslaw06.GlyphDecodes'. -/
def glyphDecodesCard : Claim7 := { stood := { row := glyphDecodesRow, standIns := [], harness := (true, "fee87d5dd7c7dad085e3d0eea3ea44f4d1987985abbe4179cf06d7b68320d8ac"), looks := false }, kinds := [], alts := [], laidByText := true, laidKinds := [.data], laidTests := true, laidLooks := .later }
def GlyphDecodesCardSaid : Prop := Claim7.holds Tryd.pinned (.plain (OpenSpec.ofChange glyphDecodesSpec)) glyphDecodesCard

/-- THE TIED CARD OF 'mapsheetslaw06.GlyphEncodes'. -/
def glyphEncodesCard : Claim7 := { stood := { row := glyphEncodesRow, standIns := [], harness := (true, "fee87d5dd7c7dad085e3d0eea3ea44f4d1987985abbe4179cf06d7b68320d8ac"), looks := false }, kinds := [], alts := [], laidByText := true, laidKinds := [.data], laidTests := true, laidLooks := .later }
def GlyphEncodesCardSaid : Prop := Claim7.holds Tryd.pinned (.plain (OpenSpec.ofChange glyphEncodesSpec)) glyphEncodesCard

/-- THE TIED CARD OF 'mapsheetslaw06.GlyphBack'. -/
def glyphBackCard : Claim7 := { stood := { row := glyphBackRow, standIns := [], harness := (true, "fee87d5dd7c7dad085e3d0eea3ea44f4d1987985abbe4179cf06d7b68320d8ac"), looks := false }, kinds := [], alts := [], laidByText := true, laidKinds := [.data], laidTests := true, laidLooks := .later }
def GlyphBackCardSaid : Prop := Claim7.holds Tryd.pinned (.plain (OpenSpec.ofChange glyphBackSpec)) glyphBackCard

/-- THE TIED CARD OF 'mapsheetslaw06.GlyphTables'. -/
def glyphTablesCard : Claim7 := { stood := { row := glyphTablesRow, standIns := [], harness := (true, "fee87d5dd7c7dad085e3d0eea3ea44f4d1987985abbe4179cf06d7b68320d8ac"), looks := false }, kinds := [], alts := [], laidByText := true, laidKinds := [.data], laidTests := true, laidLooks := .later }
def GlyphTablesCardSaid : Prop := Claim7.holds Tryd.pinned (.plain (OpenSpec.ofChange glyphTablesSpec)) glyphTablesCard

/-- THE TIED CARD OF 'mapsheetslaw06.GlyphFolds'. -/
def glyphFoldsCard : Claim7 := { stood := { row := glyphFoldsRow, standIns := [], harness := (true, "fee87d5dd7c7dad085e3d0eea3ea44f4d1987985abbe4179cf06d7b68320d8ac"), looks := false }, kinds := [], alts := [], laidByText := true, laidKinds := [.data], laidTests := true, laidLooks := .later }
def GlyphFoldsCardSaid : Prop := Claim7.holds Tryd.pinned (.plain (OpenSpec.ofChange glyphFoldsSpec)) glyphFoldsCard

/-- THE TIED CARD OF 'mapsheetslaw06.GlyphWidths'. -/
def glyphWidthsCard : Claim7 := { stood := { row := glyphWidthsRow, standIns := [], harness := (true, "fee87d5dd7c7dad085e3d0eea3ea44f4d1987985abbe4179cf06d7b68320d8ac"), looks := false }, kinds := [], alts := [], laidByText := true, laidKinds := [.data], laidTests := true, laidLooks := .later }
def GlyphWidthsCardSaid : Prop := Claim7.holds Tryd.pinned (.plain (OpenSpec.ofChange glyphWidthsSpec)) glyphWidthsCard

/-- THE TIED CARD OF 'mapsheetslaw06.GlyphOrders'. -/
def glyphOrdersCard : Claim7 := { stood := { row := glyphOrdersRow, standIns := [], harness := (true, "fee87d5dd7c7dad085e3d0eea3ea44f4d1987985abbe4179cf06d7b68320d8ac"), looks := false }, kinds := [], alts := [], laidByText := true, laidKinds := [.data], laidTests := true, laidLooks := .later }
def GlyphOrdersCardSaid : Prop := Claim7.holds Tryd.pinned (.plain (OpenSpec.ofChange glyphOrdersSpec)) glyphOrdersCard

/-- THE TIED CARD OF 'mapsheetslaw06.GlyphMoves'. -/
def glyphMovesCard : Claim7 := { stood := { row := glyphMovesRow, standIns := [], harness := (true, "fee87d5dd7c7dad085e3d0eea3ea44f4d1987985abbe4179cf06d7b68320d8ac"), looks := false }, kinds := [], alts := [], laidByText := true, laidKinds := [.data], laidTests := true, laidLooks := .later }
def GlyphMovesCardSaid : Prop := Claim7.holds Tryd.pinned (.plain (OpenSpec.ofChange glyphMovesSpec)) glyphMovesCard

/-- THE TIED CARD OF 'mapsheetslaw06.GlyphJoins'. -/
def glyphJoinsCard : Claim7 := { stood := { row := glyphJoinsRow, standIns := [], harness := (true, "fee87d5dd7c7dad085e3d0eea3ea44f4d1987985abbe4179cf06d7b68320d8ac"), looks := false }, kinds := [], alts := [], laidByText := true, laidKinds := [.data], laidTests := true, laidLooks := .later }
def GlyphJoinsCardSaid : Prop := Claim7.holds Tryd.pinned (.plain (OpenSpec.ofChange glyphJoinsSpec)) glyphJoinsCard

/-- THE TIED CARD OF 'mapsheetslaw07.NameChecks'. -/
def nameChecksCard : Claim7 := { stood := { row := nameChecksRow, standIns := [], harness := (true, "fee87d5dd7c7dad085e3d0eea3ea44f4d1987985abbe4179cf06d7b68320d8ac"), looks := false }, kinds := [], alts := [], laidByText := true, laidKinds := [.data], laidTests := true, laidLooks := .later }
def NameChecksCardSaid : Prop := Claim7.holds Tryd.pinned (.plain (OpenSpec.ofChange nameChecksSpec)) nameChecksCard

/-- THE TIED CARD OF 'mapsheetslaw07.NameCompares'. -/
def nameComparesCard : Claim7 := { stood := { row := nameComparesRow, standIns := [], harness := (true, "fee87d5dd7c7dad085e3d0eea3ea44f4d1987985abbe4179cf06d7b68320d8ac"), looks := false }, kinds := [], alts := [], laidByText := true, laidKinds := [.data], laidTests := true, laidLooks := .later }
def NameComparesCardSaid : Prop := Claim7.holds Tryd.pinned (.plain (OpenSpec.ofChange nameComparesSpec)) nameComparesCard

/-- THE TIED CARD OF 'mapsheetslaw07.NameOrders'. -/
def nameOrdersCard : Claim7 := { stood := { row := nameOrdersRow, standIns := [], harness := (true, "fee87d5dd7c7dad085e3d0eea3ea44f4d1987985abbe4179cf06d7b68320d8ac"), looks := false }, kinds := [], alts := [], laidByText := true, laidKinds := [.data], laidTests := true, laidLooks := .later }
def NameOrdersCardSaid : Prop := Claim7.holds Tryd.pinned (.plain (OpenSpec.ofChange nameOrdersSpec)) nameOrdersCard

/-- THE TIED CARD OF 'mapsheetslaw07.NameRuns'. -/
def nameRunsCard : Claim7 := { stood := { row := nameRunsRow, standIns := [], harness := (true, "fee87d5dd7c7dad085e3d0eea3ea44f4d1987985abbe4179cf06d7b68320d8ac"), looks := false }, kinds := [], alts := [], laidByText := true, laidKinds := [.data], laidTests := true, laidLooks := .later }
def NameRunsCardSaid : Prop := Claim7.holds Tryd.pinned (.plain (OpenSpec.ofChange nameRunsSpec)) nameRunsCard

/-- THE TIED CARD OF 'mapsheetslaw07.NameWidths'. -/
def nameWidthsCard : Claim7 := { stood := { row := nameWidthsRow, standIns := [], harness := (true, "fee87d5dd7c7dad085e3d0eea3ea44f4d1987985abbe4179cf06d7b68320d8ac"), looks := false }, kinds := [], alts := [], laidByText := true, laidKinds := [.data], laidTests := true, laidLooks := .later }
def NameWidthsCardSaid : Prop := Claim7.holds Tryd.pinned (.plain (OpenSpec.ofChange nameWidthsSpec)) nameWidthsCard

/-- THE TIED CARD OF 'mapsheetslaw07.NameFolds'. -/
def nameFoldsCard : Claim7 := { stood := { row := nameFoldsRow, standIns := [], harness := (true, "fee87d5dd7c7dad085e3d0eea3ea44f4d1987985abbe4179cf06d7b68320d8ac"), looks := false }, kinds := [], alts := [], laidByText := true, laidKinds := [.data], laidTests := true, laidLooks := .later }
def NameFoldsCardSaid : Prop := Claim7.holds Tryd.pinned (.plain (OpenSpec.ofChange nameFoldsSpec)) nameFoldsCard

/-- THE TIED CARD OF 'mapsheetslaw07.NameSpells'. -/
def nameSpellsCard : Claim7 := { stood := { row := nameSpellsRow, standIns := [], harness := (true, "fee87d5dd7c7dad085e3d0eea3ea44f4d1987985abbe4179cf06d7b68320d8ac"), looks := false }, kinds := [], alts := [], laidByText := true, laidKinds := [.data], laidTests := true, laidLooks := .later }
def NameSpellsCardSaid : Prop := Claim7.holds Tryd.pinned (.plain (OpenSpec.ofChange nameSpellsSpec)) nameSpellsCard

/-- THE SECOND FORM's CARD OF 'mapsheetslaw06.GlyphDecodes'. -/
def glyphDecodesUptoCard : Claim7 := { stood := { row := glyphDecodesUptoRow, standIns := [], harness := (true, "fee87d5dd7c7dad085e3d0eea3ea44f4d1987985abbe4179cf06d7b68320d8ac"), looks := false }, kinds := [], alts := [], laidByText := true, laidKinds := [.data], laidTests := true, laidLooks := .later }
def GlyphDecodesUptoCardSaid : Prop := Claim7.holds Tryd.pinned (.plain (OpenSpec.upto glyphDecodesSpec)) glyphDecodesUptoCard

/-- THE SECOND FORM's CARD OF 'mapsheetslaw06.GlyphEncodes'. -/
def glyphEncodesUptoCard : Claim7 := { stood := { row := glyphEncodesUptoRow, standIns := [], harness := (true, "fee87d5dd7c7dad085e3d0eea3ea44f4d1987985abbe4179cf06d7b68320d8ac"), looks := false }, kinds := [], alts := [], laidByText := true, laidKinds := [.data], laidTests := true, laidLooks := .later }
def GlyphEncodesUptoCardSaid : Prop := Claim7.holds Tryd.pinned (.plain (OpenSpec.upto glyphEncodesSpec)) glyphEncodesUptoCard

/-- THE SECOND FORM's CARD OF 'mapsheetslaw06.GlyphBack'. -/
def glyphBackUptoCard : Claim7 := { stood := { row := glyphBackUptoRow, standIns := [], harness := (true, "fee87d5dd7c7dad085e3d0eea3ea44f4d1987985abbe4179cf06d7b68320d8ac"), looks := false }, kinds := [], alts := [], laidByText := true, laidKinds := [.data], laidTests := true, laidLooks := .later }
def GlyphBackUptoCardSaid : Prop := Claim7.holds Tryd.pinned (.plain (OpenSpec.upto glyphBackSpec)) glyphBackUptoCard

/-- THE SECOND FORM's CARD OF 'mapsheetslaw06.GlyphTables'. -/
def glyphTablesUptoCard : Claim7 := { stood := { row := glyphTablesUptoRow, standIns := [], harness := (true, "fee87d5dd7c7dad085e3d0eea3ea44f4d1987985abbe4179cf06d7b68320d8ac"), looks := false }, kinds := [], alts := [], laidByText := true, laidKinds := [.data], laidTests := true, laidLooks := .later }
def GlyphTablesUptoCardSaid : Prop := Claim7.holds Tryd.pinned (.plain (OpenSpec.upto glyphTablesSpec)) glyphTablesUptoCard

/-- THE SECOND FORM's CARD OF 'mapsheetslaw06.GlyphFolds'. -/
def glyphFoldsUptoCard : Claim7 := { stood := { row := glyphFoldsUptoRow, standIns := [], harness := (true, "fee87d5dd7c7dad085e3d0eea3ea44f4d1987985abbe4179cf06d7b68320d8ac"), looks := false }, kinds := [], alts := [], laidByText := true, laidKinds := [.data], laidTests := true, laidLooks := .later }
def GlyphFoldsUptoCardSaid : Prop := Claim7.holds Tryd.pinned (.plain (OpenSpec.upto glyphFoldsSpec)) glyphFoldsUptoCard

/-- THE SECOND FORM's CARD OF 'mapsheetslaw06.GlyphWidths'. -/
def glyphWidthsUptoCard : Claim7 := { stood := { row := glyphWidthsUptoRow, standIns := [], harness := (true, "fee87d5dd7c7dad085e3d0eea3ea44f4d1987985abbe4179cf06d7b68320d8ac"), looks := false }, kinds := [], alts := [], laidByText := true, laidKinds := [.data], laidTests := true, laidLooks := .later }
def GlyphWidthsUptoCardSaid : Prop := Claim7.holds Tryd.pinned (.plain (OpenSpec.upto glyphWidthsSpec)) glyphWidthsUptoCard

/-- THE SECOND FORM's CARD OF 'mapsheetslaw06.GlyphOrders'. -/
def glyphOrdersUptoCard : Claim7 := { stood := { row := glyphOrdersUptoRow, standIns := [], harness := (true, "fee87d5dd7c7dad085e3d0eea3ea44f4d1987985abbe4179cf06d7b68320d8ac"), looks := false }, kinds := [], alts := [], laidByText := true, laidKinds := [.data], laidTests := true, laidLooks := .later }
def GlyphOrdersUptoCardSaid : Prop := Claim7.holds Tryd.pinned (.plain (OpenSpec.upto glyphOrdersSpec)) glyphOrdersUptoCard

/-- THE SECOND FORM's CARD OF 'mapsheetslaw06.GlyphMoves'. -/
def glyphMovesUptoCard : Claim7 := { stood := { row := glyphMovesUptoRow, standIns := [], harness := (true, "fee87d5dd7c7dad085e3d0eea3ea44f4d1987985abbe4179cf06d7b68320d8ac"), looks := false }, kinds := [], alts := [], laidByText := true, laidKinds := [.data], laidTests := true, laidLooks := .later }
def GlyphMovesUptoCardSaid : Prop := Claim7.holds Tryd.pinned (.plain (OpenSpec.upto glyphMovesSpec)) glyphMovesUptoCard

/-- THE SECOND FORM's CARD OF 'mapsheetslaw06.GlyphJoins'. -/
def glyphJoinsUptoCard : Claim7 := { stood := { row := glyphJoinsUptoRow, standIns := [], harness := (true, "fee87d5dd7c7dad085e3d0eea3ea44f4d1987985abbe4179cf06d7b68320d8ac"), looks := false }, kinds := [], alts := [], laidByText := true, laidKinds := [.data], laidTests := true, laidLooks := .later }
def GlyphJoinsUptoCardSaid : Prop := Claim7.holds Tryd.pinned (.plain (OpenSpec.upto glyphJoinsSpec)) glyphJoinsUptoCard

/-- THE SECOND FORM's CARD OF 'mapsheetslaw07.NameChecks'. -/
def nameChecksUptoCard : Claim7 := { stood := { row := nameChecksUptoRow, standIns := [], harness := (true, "fee87d5dd7c7dad085e3d0eea3ea44f4d1987985abbe4179cf06d7b68320d8ac"), looks := false }, kinds := [], alts := [], laidByText := true, laidKinds := [.data], laidTests := true, laidLooks := .later }
def NameChecksUptoCardSaid : Prop := Claim7.holds Tryd.pinned (.plain (OpenSpec.upto nameChecksSpec)) nameChecksUptoCard

/-- THE SECOND FORM's CARD OF 'mapsheetslaw07.NameCompares'. -/
def nameComparesUptoCard : Claim7 := { stood := { row := nameComparesUptoRow, standIns := [], harness := (true, "fee87d5dd7c7dad085e3d0eea3ea44f4d1987985abbe4179cf06d7b68320d8ac"), looks := false }, kinds := [], alts := [], laidByText := true, laidKinds := [.data], laidTests := true, laidLooks := .later }
def NameComparesUptoCardSaid : Prop := Claim7.holds Tryd.pinned (.plain (OpenSpec.upto nameComparesSpec)) nameComparesUptoCard

/-- THE SECOND FORM's CARD OF 'mapsheetslaw07.NameOrders'. -/
def nameOrdersUptoCard : Claim7 := { stood := { row := nameOrdersUptoRow, standIns := [], harness := (true, "fee87d5dd7c7dad085e3d0eea3ea44f4d1987985abbe4179cf06d7b68320d8ac"), looks := false }, kinds := [], alts := [], laidByText := true, laidKinds := [.data], laidTests := true, laidLooks := .later }
def NameOrdersUptoCardSaid : Prop := Claim7.holds Tryd.pinned (.plain (OpenSpec.upto nameOrdersSpec)) nameOrdersUptoCard

/-- THE SECOND FORM's CARD OF 'mapsheetslaw07.NameRuns'. -/
def nameRunsUptoCard : Claim7 := { stood := { row := nameRunsUptoRow, standIns := [], harness := (true, "fee87d5dd7c7dad085e3d0eea3ea44f4d1987985abbe4179cf06d7b68320d8ac"), looks := false }, kinds := [], alts := [], laidByText := true, laidKinds := [.data], laidTests := true, laidLooks := .later }
def NameRunsUptoCardSaid : Prop := Claim7.holds Tryd.pinned (.plain (OpenSpec.upto nameRunsSpec)) nameRunsUptoCard

/-- THE SECOND FORM's CARD OF 'mapsheetslaw07.NameWidths'. -/
def nameWidthsUptoCard : Claim7 := { stood := { row := nameWidthsUptoRow, standIns := [], harness := (true, "fee87d5dd7c7dad085e3d0eea3ea44f4d1987985abbe4179cf06d7b68320d8ac"), looks := false }, kinds := [], alts := [], laidByText := true, laidKinds := [.data], laidTests := true, laidLooks := .later }
def NameWidthsUptoCardSaid : Prop := Claim7.holds Tryd.pinned (.plain (OpenSpec.upto nameWidthsSpec)) nameWidthsUptoCard

/-- THE SECOND FORM's CARD OF 'mapsheetslaw07.NameFolds'. -/
def nameFoldsUptoCard : Claim7 := { stood := { row := nameFoldsUptoRow, standIns := [], harness := (true, "fee87d5dd7c7dad085e3d0eea3ea44f4d1987985abbe4179cf06d7b68320d8ac"), looks := false }, kinds := [], alts := [], laidByText := true, laidKinds := [.data], laidTests := true, laidLooks := .later }
def NameFoldsUptoCardSaid : Prop := Claim7.holds Tryd.pinned (.plain (OpenSpec.upto nameFoldsSpec)) nameFoldsUptoCard

/-- THE SECOND FORM's CARD OF 'mapsheetslaw07.NameSpells'. -/
def nameSpellsUptoCard : Claim7 := { stood := { row := nameSpellsUptoRow, standIns := [], harness := (true, "fee87d5dd7c7dad085e3d0eea3ea44f4d1987985abbe4179cf06d7b68320d8ac"), looks := false }, kinds := [], alts := [], laidByText := true, laidKinds := [.data], laidTests := true, laidLooks := .later }
def NameSpellsUptoCardSaid : Prop := Claim7.holds Tryd.pinned (.plain (OpenSpec.upto nameSpellsSpec)) nameSpellsUptoCard
end Rows
end Go.Proofs.YtlcjfphhogcenaaDoor

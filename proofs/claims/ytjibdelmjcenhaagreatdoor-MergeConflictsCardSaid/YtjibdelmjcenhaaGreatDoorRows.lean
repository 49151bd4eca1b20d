/-
  NARROWER THAN 'FOR EVERY INPUT', by the rows' own cells (each row's printed sentence says how): MergeThree: laid · MergeSides: laid · MergeSymmetric: laid · MergeConflicts: laid.
  DERIVED. THE GIVEN ROWS OF THIS SEAT. 4 by the template 'for every input the law returns true; each argument reads behind the call as it read before'; 0 by the template 'total and deterministic' (their statements: YtjibdelmjcenhaaGreatDoorTotals.lean).
  GIVEN WITH THE SEED: the statements are not yours to turn. If you find one false, say at which input.
  Laid BY PROGRAM, IN A SANDBOX (cutbox-rows.mjs): the forced cells as the released guide's own fill.sh prints them over the translation 96af23cbd52c4194… (all of the seat's roots in one cut). By AI agents, Wed Nov 11 2026. No macro, syntax, notation, axiom, sorry.
-/
import Derived.Test.YtjibdelmjcenhaaGreatDoorChecked
import GoSem.Claim
import GoSem.ClaimJoined
import GoSem.ClaimMapViews
import Derived.JoinedTies
import Derived.KernelRfl
namespace Go.Proofs.YtjibdelmjcenhaaGreatDoor
/- THE CELL 'sum', in the pinned program and in every row, IS THE sha256 OF THE DUMP (.gsa) THAT YtjibdelmjcenhaaGreatDoorProg.lean LOADS. Nothing in Lean hashes anything: it is a label: what it is worth is what the hold of that sum in a sandbox is worth. -/
noncomputable def Tryz.pinned : Pinned := { name := "ytjibdelmjcenhaagreatdoor", sum := "96af23cbd52c41942774d3183f4b7fca56d8545a691c942ab4266cf3b8eb9e12", checked := Tryz.checked }
namespace Rows
def none {H : Type} : Left H := { results := [], args := [] }

/- WHAT THE LISTED PACKAGE-LEVEL VARIABLES READ AS WHEN THE CALL BEGINS. Each datum BY PROGRAM (the guide's laid-datum.mjs) off the statement by which the dump's own 'gosem.cut.vars' lays the variable. In a bare row this is a premise. The card (YtjibdelmjcenhaaGreatDoorCards.lean) ties it to the program's text. -/
def laid_mapsheets_glyph_scripts {H : Type} : DataW H := .agg [.agg [.lit (.int .i32 32), .lit (.int .i32 32), .lit (.int .i64 0)], .agg [.lit (.int .i32 39), .lit (.int .i32 41), .lit (.int .i64 0)], .agg [.lit (.int .i32 45), .lit (.int .i32 46), .lit (.int .i64 0)], .agg [.lit (.int .i32 48), .lit (.int .i32 57), .lit (.int .i64 0)], .agg [.lit (.int .i32 65), .lit (.int .i32 90), .lit (.int .i64 1)], .agg [.lit (.int .i32 97), .lit (.int .i32 122), .lit (.int .i64 1)], .agg [.lit (.int .i32 192), .lit (.int .i32 214), .lit (.int .i64 1)], .agg [.lit (.int .i32 216), .lit (.int .i32 246), .lit (.int .i64 1)], .agg [.lit (.int .i32 248), .lit (.int .i32 591), .lit (.int .i64 1)], .agg [.lit (.int .i32 880), .lit (.int .i32 1023), .lit (.int .i64 2)], .agg [.lit (.int .i32 1024), .lit (.int .i32 1279), .lit (.int .i64 3)], .agg [.lit (.int .i32 1488), .lit (.int .i32 1514), .lit (.int .i64 4)], .agg [.lit (.int .i32 19968), .lit (.int .i32 40959), .lit (.int .i64 5)]]

/-- 'mapsheetslaw29.MergeThree': WHATEVER THE INPUT: true; the input reads as it did. -/
def mergeThreeSpec : ChangeSpec := { name := "mergeThree", fn := fun _ => fun
  | [d1, d2, d3] => { results := [.lit (.bool true)], args := [d1, d2, d3] }
  | _ => none }
def mergeThreeRow : OpenClaim := { program := "ytjibdelmjcenhaagreatdoor", sum := "96af23cbd52c41942774d3183f4b7fca56d8545a691c942ab4266cf3b8eb9e12", func := "mapsheets/mapsheetslaw29.MergeThree", spec := "mergeThree", inPlace := ["internal/bytealg.IndexByteString", "internal/bytealg.IndexString"], unfollowed := true, recurses := true, named := ["mapsheets/glyph.scripts", "internal/bytealg.MaxLen"], plainKeys := false, apart := false, laid := [("mapsheets/glyph.scripts", laid_mapsheets_glyph_scripts)] }
def MergeThreeSaid : Prop := mergeThreeRow.holds Tryz.pinned (OpenSpec.ofChange mergeThreeSpec)

/-- ITS FALSE NEIGHBOUR: 'it returns false'. Refute it at one input. -/
def mergeThreeWrong : ChangeSpec := { name := "mergeThree", fn := fun _ => fun
  | [d1, d2, d3] => { results := [.lit (.bool false)], args := [d1, d2, d3] }
  | _ => none }
def MergeThreeWrongFalsely : Prop := mergeThreeRow.holds Tryz.pinned (OpenSpec.ofChange mergeThreeWrong)

/-- 'mapsheetslaw29.MergeSides': WHATEVER THE INPUT: true; the input reads as it did. -/
def mergeSidesSpec : ChangeSpec := { name := "mergeSides", fn := fun _ => fun
  | [d1, d2] => { results := [.lit (.bool true)], args := [d1, d2] }
  | _ => none }
def mergeSidesRow : OpenClaim := { program := "ytjibdelmjcenhaagreatdoor", sum := "96af23cbd52c41942774d3183f4b7fca56d8545a691c942ab4266cf3b8eb9e12", func := "mapsheets/mapsheetslaw29.MergeSides", spec := "mergeSides", inPlace := ["internal/bytealg.IndexByteString", "internal/bytealg.IndexString"], unfollowed := true, recurses := true, named := ["mapsheets/glyph.scripts", "internal/bytealg.MaxLen"], plainKeys := false, apart := false, laid := [("mapsheets/glyph.scripts", laid_mapsheets_glyph_scripts)] }
def MergeSidesSaid : Prop := mergeSidesRow.holds Tryz.pinned (OpenSpec.ofChange mergeSidesSpec)

/-- ITS FALSE NEIGHBOUR: 'it returns false'. Refute it at one input. -/
def mergeSidesWrong : ChangeSpec := { name := "mergeSides", fn := fun _ => fun
  | [d1, d2] => { results := [.lit (.bool false)], args := [d1, d2] }
  | _ => none }
def MergeSidesWrongFalsely : Prop := mergeSidesRow.holds Tryz.pinned (OpenSpec.ofChange mergeSidesWrong)

/-- 'mapsheetslaw29.MergeSymmetric': WHATEVER THE INPUT: true; the input reads as it did. -/
def mergeSymmetricSpec : ChangeSpec := { name := "mergeSymmetric", fn := fun _ => fun
  | [d1, d2, d3] => { results := [.lit (.bool true)], args := [d1, d2, d3] }
  | _ => none }
def mergeSymmetricRow : OpenClaim := { program := "ytjibdelmjcenhaagreatdoor", sum := "96af23cbd52c41942774d3183f4b7fca56d8545a691c942ab4266cf3b8eb9e12", func := "mapsheets/mapsheetslaw29.MergeSymmetric", spec := "mergeSymmetric", inPlace := ["internal/bytealg.IndexByteString", "internal/bytealg.IndexString"], unfollowed := true, recurses := true, named := ["mapsheets/glyph.scripts", "internal/bytealg.MaxLen"], plainKeys := false, apart := false, laid := [("mapsheets/glyph.scripts", laid_mapsheets_glyph_scripts)] }
def MergeSymmetricSaid : Prop := mergeSymmetricRow.holds Tryz.pinned (OpenSpec.ofChange mergeSymmetricSpec)

/-- ITS FALSE NEIGHBOUR: 'it returns false'. Refute it at one input. -/
def mergeSymmetricWrong : ChangeSpec := { name := "mergeSymmetric", fn := fun _ => fun
  | [d1, d2, d3] => { results := [.lit (.bool false)], args := [d1, d2, d3] }
  | _ => none }
def MergeSymmetricWrongFalsely : Prop := mergeSymmetricRow.holds Tryz.pinned (OpenSpec.ofChange mergeSymmetricWrong)

/-- 'mapsheetslaw29.MergeConflicts': WHATEVER THE INPUT: true; the input reads as it did. -/
def mergeConflictsSpec : ChangeSpec := { name := "mergeConflicts", fn := fun _ => fun
  | [d1, d2, d3] => { results := [.lit (.bool true)], args := [d1, d2, d3] }
  | _ => none }
def mergeConflictsRow : OpenClaim := { program := "ytjibdelmjcenhaagreatdoor", sum := "96af23cbd52c41942774d3183f4b7fca56d8545a691c942ab4266cf3b8eb9e12", func := "mapsheets/mapsheetslaw29.MergeConflicts", spec := "mergeConflicts", inPlace := ["internal/bytealg.IndexByteString", "internal/bytealg.IndexString"], unfollowed := true, recurses := true, named := ["mapsheets/glyph.scripts", "internal/bytealg.MaxLen"], plainKeys := false, apart := false, laid := [("mapsheets/glyph.scripts", laid_mapsheets_glyph_scripts)] }
def MergeConflictsSaid : Prop := mergeConflictsRow.holds Tryz.pinned (OpenSpec.ofChange mergeConflictsSpec)

/-- ITS FALSE NEIGHBOUR: 'it returns false'. Refute it at one input. -/
def mergeConflictsWrong : ChangeSpec := { name := "mergeConflicts", fn := fun _ => fun
  | [d1, d2, d3] => { results := [.lit (.bool false)], args := [d1, d2, d3] }
  | _ => none }
def MergeConflictsWrongFalsely : Prop := mergeConflictsRow.holds Tryz.pinned (OpenSpec.ofChange mergeConflictsWrong)

/- THE SECOND FORM. 'bulk': how many values and letters a reading holds, each counted each time it is reached (what is shared counts as often as it is met; a slice's spare places count too). A statement '..UptoSaid' is the law's where the arguments, and the package variables that the reading takes, are together of bulk at most 1048576: NARROWER than '..Said'. Prove '..Said' where nothing that the law and all that it calls make is longer than what came in: it says more and counts as full. Else prove '..UptoSaid'. A law counts once. -/
mutual
def uptoBulk {H : Type} : DataW H → Nat
  | .lit (.string bytes) => bytes.length + 1
  | .lit _ => 1
  | .nil => 1
  | .ptr d => uptoBulk d + 1
  | .slice elems spare => uptoBulkAll elems + uptoBulkAll spare + 1
  | .agg parts => uptoBulkAll parts + 1
  | .iface _ d => uptoBulk d + 1
  | .map entries => uptoBulkEntries entries + 1
  | .held _ => 1
def uptoBulkAll {H : Type} : List (DataW H) → Nat
  | [] => 0
  | d :: r => uptoBulk d + uptoBulkAll r
def uptoBulkEntries {H : Type} : List (Lit × DataW H) → Nat
  | [] => 0
  | x :: r => uptoBulkEntry x + uptoBulkEntries r
def uptoBulkEntry {H : Type} : Lit × DataW H → Nat
  | (.string bytes, d) => bytes.length + uptoBulk d + 1
  | (_, d) => uptoBulk d + 1
 end
def uptoSmall : (H : Type) → List (DataW H) → Bool := fun _ ds => decide (uptoBulkAll ds ≤ 1048576)
def OpenSpec.upto (s : _root_.Go.ChangeSpec) : _root_.Go.OpenSpec := { _root_.Go.OpenSpec.ofChange s with cond := some uptoSmall }

/-- 'mapsheetslaw29.MergeThree', WHERE WHAT IT READS IS OF BULK AT MOST 1048576: true; the input reads as it did. -/
def mergeThreeUptoRow : OpenClaim := { program := "ytjibdelmjcenhaagreatdoor", sum := "96af23cbd52c41942774d3183f4b7fca56d8545a691c942ab4266cf3b8eb9e12", func := "mapsheets/mapsheetslaw29.MergeThree", spec := "mergeThree", inPlace := ["internal/bytealg.IndexByteString", "internal/bytealg.IndexString"], unfollowed := true, recurses := true, named := ["mapsheets/glyph.scripts", "internal/bytealg.MaxLen"], plainKeys := false, apart := false, laid := [("mapsheets/glyph.scripts", laid_mapsheets_glyph_scripts)], narrowed := true }
def MergeThreeUptoSaid : Prop := mergeThreeUptoRow.holds Tryz.pinned (OpenSpec.upto mergeThreeSpec)

/-- 'mapsheetslaw29.MergeSides', WHERE WHAT IT READS IS OF BULK AT MOST 1048576: true; the input reads as it did. -/
def mergeSidesUptoRow : OpenClaim := { program := "ytjibdelmjcenhaagreatdoor", sum := "96af23cbd52c41942774d3183f4b7fca56d8545a691c942ab4266cf3b8eb9e12", func := "mapsheets/mapsheetslaw29.MergeSides", spec := "mergeSides", inPlace := ["internal/bytealg.IndexByteString", "internal/bytealg.IndexString"], unfollowed := true, recurses := true, named := ["mapsheets/glyph.scripts", "internal/bytealg.MaxLen"], plainKeys := false, apart := false, laid := [("mapsheets/glyph.scripts", laid_mapsheets_glyph_scripts)], narrowed := true }
def MergeSidesUptoSaid : Prop := mergeSidesUptoRow.holds Tryz.pinned (OpenSpec.upto mergeSidesSpec)

/-- 'mapsheetslaw29.MergeSymmetric', WHERE WHAT IT READS IS OF BULK AT MOST 1048576: true; the input reads as it did. -/
def mergeSymmetricUptoRow : OpenClaim := { program := "ytjibdelmjcenhaagreatdoor", sum := "96af23cbd52c41942774d3183f4b7fca56d8545a691c942ab4266cf3b8eb9e12", func := "mapsheets/mapsheetslaw29.MergeSymmetric", spec := "mergeSymmetric", inPlace := ["internal/bytealg.IndexByteString", "internal/bytealg.IndexString"], unfollowed := true, recurses := true, named := ["mapsheets/glyph.scripts", "internal/bytealg.MaxLen"], plainKeys := false, apart := false, laid := [("mapsheets/glyph.scripts", laid_mapsheets_glyph_scripts)], narrowed := true }
def MergeSymmetricUptoSaid : Prop := mergeSymmetricUptoRow.holds Tryz.pinned (OpenSpec.upto mergeSymmetricSpec)

/-- 'mapsheetslaw29.MergeConflicts', WHERE WHAT IT READS IS OF BULK AT MOST 1048576: true; the input reads as it did. -/
def mergeConflictsUptoRow : OpenClaim := { program := "ytjibdelmjcenhaagreatdoor", sum := "96af23cbd52c41942774d3183f4b7fca56d8545a691c942ab4266cf3b8eb9e12", func := "mapsheets/mapsheetslaw29.MergeConflicts", spec := "mergeConflicts", inPlace := ["internal/bytealg.IndexByteString", "internal/bytealg.IndexString"], unfollowed := true, recurses := true, named := ["mapsheets/glyph.scripts", "internal/bytealg.MaxLen"], plainKeys := false, apart := false, laid := [("mapsheets/glyph.scripts", laid_mapsheets_glyph_scripts)], narrowed := true }
def MergeConflictsUptoSaid : Prop := mergeConflictsUptoRow.holds Tryz.pinned (OpenSpec.upto mergeConflictsSpec)

end Rows
end Go.Proofs.YtjibdelmjcenhaaGreatDoor

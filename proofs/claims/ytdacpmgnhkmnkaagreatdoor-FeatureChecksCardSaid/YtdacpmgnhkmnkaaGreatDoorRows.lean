/-
  NARROWER THAN 'FOR EVERY INPUT', by the rows' own cells (each row's printed sentence says how): FeatureChecks: laid · FeatureSums: laid.
  DERIVED. THE GIVEN ROWS OF THIS SEAT. 2 by the template 'for every input the law returns true; each argument reads behind the call as it read before'; 0 by the template 'total and deterministic' (their statements: YtdacpmgnhkmnkaaGreatDoorTotals.lean).
  GIVEN WITH THE SEED: the statements are not yours to turn. If you find one false, say at which input.
  Laid BY PROGRAM, IN A SANDBOX (cutbox-rows.mjs): the forced cells as the released guide's own fill.sh prints them over the translation 4ccbf5c78e9187a7… (all of the seat's roots in one cut). By AI agents, Wed Nov 11 2026. No macro, syntax, notation, axiom, sorry.
-/
import Derived.Test.YtdacpmgnhkmnkaaGreatDoorChecked
import GoSem.Claim
import GoSem.ClaimJoined
import GoSem.ClaimMapViews
import Derived.JoinedTies
import Derived.KernelRfl
namespace Go.Proofs.YtdacpmgnhkmnkaaGreatDoor
/- THE CELL 'sum', in the pinned program and in every row, IS THE sha256 OF THE DUMP (.gsa) THAT YtdacpmgnhkmnkaaGreatDoorProg.lean LOADS. Nothing in Lean hashes anything: it is a label: what it is worth is what the hold of that sum in a sandbox is worth. -/
noncomputable def Tryz.pinned : Pinned := { name := "ytdacpmgnhkmnkaagreatdoor", sum := "4ccbf5c78e9187a7644d9f6cebb2c58688918ef7698feeaa4019137b0660b321", checked := Tryz.checked }
namespace Rows
def none {H : Type} : Left H := { results := [], args := [] }

/- WHAT THE LISTED PACKAGE-LEVEL VARIABLES READ AS WHEN THE CALL BEGINS. Each datum BY PROGRAM (the guide's laid-datum.mjs) off the statement by which the dump's own 'gosem.cut.vars' lays the variable. In a bare row this is a premise. The card (YtdacpmgnhkmnkaaGreatDoorCards.lean) ties it to the program's text. -/
def laid_mapsheets_glyph_scripts {H : Type} : DataW H := .agg [.agg [.lit (.int .i32 32), .lit (.int .i32 32), .lit (.int .i64 0)], .agg [.lit (.int .i32 39), .lit (.int .i32 41), .lit (.int .i64 0)], .agg [.lit (.int .i32 45), .lit (.int .i32 46), .lit (.int .i64 0)], .agg [.lit (.int .i32 48), .lit (.int .i32 57), .lit (.int .i64 0)], .agg [.lit (.int .i32 65), .lit (.int .i32 90), .lit (.int .i64 1)], .agg [.lit (.int .i32 97), .lit (.int .i32 122), .lit (.int .i64 1)], .agg [.lit (.int .i32 192), .lit (.int .i32 214), .lit (.int .i64 1)], .agg [.lit (.int .i32 216), .lit (.int .i32 246), .lit (.int .i64 1)], .agg [.lit (.int .i32 248), .lit (.int .i32 591), .lit (.int .i64 1)], .agg [.lit (.int .i32 880), .lit (.int .i32 1023), .lit (.int .i64 2)], .agg [.lit (.int .i32 1024), .lit (.int .i32 1279), .lit (.int .i64 3)], .agg [.lit (.int .i32 1488), .lit (.int .i32 1514), .lit (.int .i64 4)], .agg [.lit (.int .i32 19968), .lit (.int .i32 40959), .lit (.int .i64 5)]]

/-- 'mapsheetslaw17.FeatureChecks': WHATEVER THE INPUT: true; the input reads as it did. -/
def featureChecksSpec : ChangeSpec := { name := "featureChecks", fn := fun _ => fun
  | [d] => { results := [.lit (.bool true)], args := [d] }
  | _ => none }
def featureChecksRow : OpenClaim := { program := "ytdacpmgnhkmnkaagreatdoor", sum := "4ccbf5c78e9187a7644d9f6cebb2c58688918ef7698feeaa4019137b0660b321", func := "mapsheets/mapsheetslaw17.FeatureChecks", spec := "featureChecks", inPlace := ["internal/bytealg.IndexByteString", "internal/bytealg.IndexString"], unfollowed := true, recurses := true, named := ["mapsheets/glyph.scripts", "internal/bytealg.MaxLen"], plainKeys := false, apart := false, laid := [("mapsheets/glyph.scripts", laid_mapsheets_glyph_scripts)] }
def FeatureChecksSaid : Prop := featureChecksRow.holds Tryz.pinned (OpenSpec.ofChange featureChecksSpec)

/-- ITS FALSE NEIGHBOUR: 'it returns false'. Refute it at one input. -/
def featureChecksWrong : ChangeSpec := { name := "featureChecks", fn := fun _ => fun
  | [d] => { results := [.lit (.bool false)], args := [d] }
  | _ => none }
def FeatureChecksWrongFalsely : Prop := featureChecksRow.holds Tryz.pinned (OpenSpec.ofChange featureChecksWrong)

/-- 'mapsheetslaw17.FeatureSums': WHATEVER THE INPUT: true; the input reads as it did. -/
def featureSumsSpec : ChangeSpec := { name := "featureSums", fn := fun _ => fun
  | [d] => { results := [.lit (.bool true)], args := [d] }
  | _ => none }
def featureSumsRow : OpenClaim := { program := "ytdacpmgnhkmnkaagreatdoor", sum := "4ccbf5c78e9187a7644d9f6cebb2c58688918ef7698feeaa4019137b0660b321", func := "mapsheets/mapsheetslaw17.FeatureSums", spec := "featureSums", inPlace := ["internal/bytealg.IndexByteString", "internal/bytealg.IndexString"], unfollowed := true, recurses := true, named := ["mapsheets/glyph.scripts", "internal/bytealg.MaxLen"], plainKeys := false, apart := false, laid := [("mapsheets/glyph.scripts", laid_mapsheets_glyph_scripts)] }
def FeatureSumsSaid : Prop := featureSumsRow.holds Tryz.pinned (OpenSpec.ofChange featureSumsSpec)

/-- ITS FALSE NEIGHBOUR: 'it returns false'. Refute it at one input. -/
def featureSumsWrong : ChangeSpec := { name := "featureSums", fn := fun _ => fun
  | [d] => { results := [.lit (.bool false)], args := [d] }
  | _ => none }
def FeatureSumsWrongFalsely : Prop := featureSumsRow.holds Tryz.pinned (OpenSpec.ofChange featureSumsWrong)

/- THE SECOND FORM. 'bulk': how many values and letters a reading holds, each counted each time it is reached (what is shared counts as often as it is met; a slice's spare places count too). A statement '..UptoSaid' is the law's where the arguments, and the package variables that the reading takes, are together of bulk at most 1048576: NARROWER than '..Said'. Prove '..Said' where nothing that the law and all that it calls make is longer than what came in: it says more and counts as full. Else prove '..UptoSaid'. A law counts once. -/
mutual
def uptoBulk {H : Type} : DataW H → Nat
  | .lit (.string bytes) => bytes.length + 1
  | .lit _ => 1
  | .nil => 1
  | .ptr d => uptoBulk d + 1
  | .slice elems spare => uptoBulkAll elems + uptoBulkAll spare + 1
  | .agg parts => uptoBulkAll parts + 1
  | .iface _ d => uptoBulk d + 1
  | .map entries => uptoBulkEntries entries + 1
  | .held _ => 1
def uptoBulkAll {H : Type} : List (DataW H) → Nat
  | [] => 0
  | d :: r => uptoBulk d + uptoBulkAll r
def uptoBulkEntries {H : Type} : List (Lit × DataW H) → Nat
  | [] => 0
  | x :: r => uptoBulkEntry x + uptoBulkEntries r
def uptoBulkEntry {H : Type} : Lit × DataW H → Nat
  | (.string bytes, d) => bytes.length + uptoBulk d + 1
  | (_, d) => uptoBulk d + 1
 end
def uptoSmall : (H : Type) → List (DataW H) → Bool := fun _ ds => decide (uptoBulkAll ds ≤ 1048576)
def OpenSpec.upto (s : _root_.Go.ChangeSpec) : _root_.Go.OpenSpec := { _root_.Go.OpenSpec.ofChange s with cond := some uptoSmall }

/-- 'mapsheetslaw17.FeatureChecks', WHERE WHAT IT READS IS OF BULK AT MOST 1048576: true; the input reads as it did. -/
def featureChecksUptoRow : OpenClaim := { program := "ytdacpmgnhkmnkaagreatdoor", sum := "4ccbf5c78e9187a7644d9f6cebb2c58688918ef7698feeaa4019137b0660b321", func := "mapsheets/mapsheetslaw17.FeatureChecks", spec := "featureChecks", inPlace := ["internal/bytealg.IndexByteString", "internal/bytealg.IndexString"], unfollowed := true, recurses := true, named := ["mapsheets/glyph.scripts", "internal/bytealg.MaxLen"], plainKeys := false, apart := false, laid := [("mapsheets/glyph.scripts", laid_mapsheets_glyph_scripts)], narrowed := true }
def FeatureChecksUptoSaid : Prop := featureChecksUptoRow.holds Tryz.pinned (OpenSpec.upto featureChecksSpec)

/-- 'mapsheetslaw17.FeatureSums', WHERE WHAT IT READS IS OF BULK AT MOST 1048576: true; the input reads as it did. -/
def featureSumsUptoRow : OpenClaim := { program := "ytdacpmgnhkmnkaagreatdoor", sum := "4ccbf5c78e9187a7644d9f6cebb2c58688918ef7698feeaa4019137b0660b321", func := "mapsheets/mapsheetslaw17.FeatureSums", spec := "featureSums", inPlace := ["internal/bytealg.IndexByteString", "internal/bytealg.IndexString"], unfollowed := true, recurses := true, named := ["mapsheets/glyph.scripts", "internal/bytealg.MaxLen"], plainKeys := false, apart := false, laid := [("mapsheets/glyph.scripts", laid_mapsheets_glyph_scripts)], narrowed := true }
def FeatureSumsUptoSaid : Prop := featureSumsUptoRow.holds Tryz.pinned (OpenSpec.upto featureSumsSpec)

end Rows
end Go.Proofs.YtdacpmgnhkmnkaaGreatDoor

/-
  NARROWER THAN 'FOR EVERY INPUT', by the rows' own cells (each row's printed sentence says how): CollateReads: laid · CollateCompares: laid · CollateSorts: laid · CollateHeadings: laid.
  DERIVED. THE GIVEN ROWS OF THIS SEAT. 4 by the template 'for every input the law returns true; each argument reads behind the call as it read before'; 0 by the template 'total and deterministic' (their statements: YtifpjbgnikjglaaGreatDoorTotals.lean).
  GIVEN WITH THE SEED: the statements are not yours to turn. If you find one false, say at which input.
  Laid BY PROGRAM, IN A SANDBOX (cutbox-rows.mjs): the forced cells as the released guide's own fill.sh prints them over the translation 1b4b27ddf50f5002… (all of the seat's roots in one cut). By AI agents, Wed Nov 11 2026. No macro, syntax, notation, axiom, sorry.
-/
import Derived.Test.YtifpjbgnikjglaaGreatDoorChecked
import GoSem.PinnedTables
import GoSem.Claim
import GoSem.ClaimJoined
import GoSem.ClaimMapViews
import Derived.JoinedTies
import Derived.KernelRfl
namespace Go.Proofs.YtifpjbgnikjglaaGreatDoor
/- THE CELL 'sum', in the pinned program and in every row, IS THE sha256 OF THE DUMP (.gsa) THAT YtifpjbgnikjglaaGreatDoorProg.lean LOADS. Nothing in Lean hashes anything: it is a label: what it is worth is what the hold of that sum in a sandbox is worth. -/
noncomputable def Tryz.pinned : Pinned := { name := "ytifpjbgnikjglaagreatdoor", sum := "1b4b27ddf50f50023d9b0729dea8ad109101a3e95787fe42d488aa49664af85f", checked := Tryz.checked }
namespace Rows
def none {H : Type} : Left H := { results := [], args := [] }

/- WHAT THE LISTED PACKAGE-LEVEL VARIABLES READ AS WHEN THE CALL BEGINS. Each datum BY PROGRAM (the guide's laid-datum.mjs) off the statement by which the dump's own 'gosem.cut.vars' lays the variable. In a bare row this is a premise. The card (YtifpjbgnikjglaaGreatDoorCards.lean) ties it to the program's text. -/
def laid_unicode_utf8_acceptRanges {H : Type} : DataW H := .agg [.agg [.lit (.int .u8 128), .lit (.int .u8 191)], .agg [.lit (.int .u8 160), .lit (.int .u8 191)], .agg [.lit (.int .u8 128), .lit (.int .u8 159)], .agg [.lit (.int .u8 144), .lit (.int .u8 191)], .agg [.lit (.int .u8 128), .lit (.int .u8 143)], .agg [.lit (.int .u8 0), .lit (.int .u8 0)], .agg [.lit (.int .u8 0), .lit (.int .u8 0)], .agg [.lit (.int .u8 0), .lit (.int .u8 0)], .agg [.lit (.int .u8 0), .lit (.int .u8 0)], .agg [.lit (.int .u8 0), .lit (.int .u8 0)], .agg [.lit (.int .u8 0), .lit (.int .u8 0)], .agg [.lit (.int .u8 0), .lit (.int .u8 0)], .agg [.lit (.int .u8 0), .lit (.int .u8 0)], .agg [.lit (.int .u8 0), .lit (.int .u8 0)], .agg [.lit (.int .u8 0), .lit (.int .u8 0)], .agg [.lit (.int .u8 0), .lit (.int .u8 0)]]
/-- One of Go's own tables, pinned by name: the form's constant. -/
def laid_unicode_utf8_first : DataW Unit := Go.Pinned.utf8First

/-- 'canticlelaw22.CollateReads': WHATEVER THE INPUT: true; the input reads as it did. -/
def collateReadsSpec : ChangeSpec := { name := "collateReads", fn := fun _ => fun
  | [d] => { results := [.lit (.bool true)], args := [d] }
  | _ => none }
def collateReadsRow : OpenClaim := { program := "ytifpjbgnikjglaagreatdoor", sum := "1b4b27ddf50f50023d9b0729dea8ad109101a3e95787fe42d488aa49664af85f", func := "canticle/canticlelaw22.CollateReads", spec := "collateReads", inPlace := ["internal/bytealg.IndexByteString", "internal/bytealg.IndexString", "slices.overlaps[string]", "internal/bytealg.abigen_runtime_cmpstring", "internal/abi.NoEscape"], unfollowed := true, recurses := true, named := ["unicode/utf8.first", "unicode/utf8.acceptRanges", "internal/bytealg.MaxLen"], plainKeys := false, apart := false, laid := [("unicode/utf8.acceptRanges", laid_unicode_utf8_acceptRanges), ("unicode/utf8.first", laid_unicode_utf8_first)] }
def CollateReadsSaid : Prop := collateReadsRow.holds Tryz.pinned (OpenSpec.ofChange collateReadsSpec)

/-- ITS FALSE NEIGHBOUR: 'it returns false'. Refute it at one input. -/
def collateReadsWrong : ChangeSpec := { name := "collateReads", fn := fun _ => fun
  | [d] => { results := [.lit (.bool false)], args := [d] }
  | _ => none }
def CollateReadsWrongFalsely : Prop := collateReadsRow.holds Tryz.pinned (OpenSpec.ofChange collateReadsWrong)

/-- 'canticlelaw22.CollateCompares': WHATEVER THE INPUT: true; the input reads as it did. -/
def collateComparesSpec : ChangeSpec := { name := "collateCompares", fn := fun _ => fun
  | [d1, d2, d3] => { results := [.lit (.bool true)], args := [d1, d2, d3] }
  | _ => none }
def collateComparesRow : OpenClaim := { program := "ytifpjbgnikjglaagreatdoor", sum := "1b4b27ddf50f50023d9b0729dea8ad109101a3e95787fe42d488aa49664af85f", func := "canticle/canticlelaw22.CollateCompares", spec := "collateCompares", inPlace := ["internal/bytealg.IndexByteString", "internal/bytealg.IndexString", "slices.overlaps[string]", "internal/bytealg.abigen_runtime_cmpstring", "internal/abi.NoEscape", "internal/bytealg.Compare"], unfollowed := true, recurses := true, named := ["unicode/utf8.first", "unicode/utf8.acceptRanges", "internal/bytealg.MaxLen"], plainKeys := false, apart := false, laid := [("unicode/utf8.acceptRanges", laid_unicode_utf8_acceptRanges), ("unicode/utf8.first", laid_unicode_utf8_first)] }
def CollateComparesSaid : Prop := collateComparesRow.holds Tryz.pinned (OpenSpec.ofChange collateComparesSpec)

/-- ITS FALSE NEIGHBOUR: 'it returns false'. Refute it at one input. -/
def collateComparesWrong : ChangeSpec := { name := "collateCompares", fn := fun _ => fun
  | [d1, d2, d3] => { results := [.lit (.bool false)], args := [d1, d2, d3] }
  | _ => none }
def CollateComparesWrongFalsely : Prop := collateComparesRow.holds Tryz.pinned (OpenSpec.ofChange collateComparesWrong)

/-- 'canticlelaw22.CollateSorts': WHATEVER THE INPUT: true; the input reads as it did. -/
def collateSortsSpec : ChangeSpec := { name := "collateSorts", fn := fun _ => fun
  | [d1, d2, d3] => { results := [.lit (.bool true)], args := [d1, d2, d3] }
  | _ => none }
def collateSortsRow : OpenClaim := { program := "ytifpjbgnikjglaagreatdoor", sum := "1b4b27ddf50f50023d9b0729dea8ad109101a3e95787fe42d488aa49664af85f", func := "canticle/canticlelaw22.CollateSorts", spec := "collateSorts", inPlace := ["internal/bytealg.IndexByteString", "internal/bytealg.IndexString", "slices.overlaps[string]", "internal/bytealg.abigen_runtime_cmpstring", "internal/abi.NoEscape"], unfollowed := true, recurses := true, named := ["unicode/utf8.first", "unicode/utf8.acceptRanges", "internal/bytealg.MaxLen"], plainKeys := false, apart := false, laid := [("unicode/utf8.acceptRanges", laid_unicode_utf8_acceptRanges), ("unicode/utf8.first", laid_unicode_utf8_first)] }
def CollateSortsSaid : Prop := collateSortsRow.holds Tryz.pinned (OpenSpec.ofChange collateSortsSpec)

/-- ITS FALSE NEIGHBOUR: 'it returns false'. Refute it at one input. -/
def collateSortsWrong : ChangeSpec := { name := "collateSorts", fn := fun _ => fun
  | [d1, d2, d3] => { results := [.lit (.bool false)], args := [d1, d2, d3] }
  | _ => none }
def CollateSortsWrongFalsely : Prop := collateSortsRow.holds Tryz.pinned (OpenSpec.ofChange collateSortsWrong)

/-- 'canticlelaw22.CollateHeadings': WHATEVER THE INPUT: true; the input reads as it did. -/
def collateHeadingsSpec : ChangeSpec := { name := "collateHeadings", fn := fun _ => fun
  | [d1, d2] => { results := [.lit (.bool true)], args := [d1, d2] }
  | _ => none }
def collateHeadingsRow : OpenClaim := { program := "ytifpjbgnikjglaagreatdoor", sum := "1b4b27ddf50f50023d9b0729dea8ad109101a3e95787fe42d488aa49664af85f", func := "canticle/canticlelaw22.CollateHeadings", spec := "collateHeadings", inPlace := ["internal/bytealg.IndexByteString", "internal/bytealg.IndexString", "slices.overlaps[string]", "internal/bytealg.abigen_runtime_cmpstring", "internal/abi.NoEscape"], unfollowed := true, recurses := true, named := ["unicode/utf8.first", "unicode/utf8.acceptRanges", "internal/bytealg.MaxLen"], plainKeys := false, apart := false, laid := [("unicode/utf8.acceptRanges", laid_unicode_utf8_acceptRanges), ("unicode/utf8.first", laid_unicode_utf8_first)] }
def CollateHeadingsSaid : Prop := collateHeadingsRow.holds Tryz.pinned (OpenSpec.ofChange collateHeadingsSpec)

/-- ITS FALSE NEIGHBOUR: 'it returns false'. Refute it at one input. -/
def collateHeadingsWrong : ChangeSpec := { name := "collateHeadings", fn := fun _ => fun
  | [d1, d2] => { results := [.lit (.bool false)], args := [d1, d2] }
  | _ => none }
def CollateHeadingsWrongFalsely : Prop := collateHeadingsRow.holds Tryz.pinned (OpenSpec.ofChange collateHeadingsWrong)

/- THE SECOND FORM. 'bulk': how many values and letters a reading holds, each counted each time it is reached (what is shared counts as often as it is met; a slice's spare places count too). A statement '..UptoSaid' is the law's where the arguments, and the package variables that the reading takes, are together of bulk at most 1048576: NARROWER than '..Said'. Prove '..Said' where nothing that the law and all that it calls make is longer than what came in: it says more and counts as full. Else prove '..UptoSaid'. A law counts once. -/
mutual
def uptoBulk {H : Type} : DataW H → Nat
  | .lit (.string bytes) => bytes.length + 1
  | .lit _ => 1
  | .nil => 1
  | .ptr d => uptoBulk d + 1
  | .slice elems spare => uptoBulkAll elems + uptoBulkAll spare + 1
  | .agg parts => uptoBulkAll parts + 1
  | .iface _ d => uptoBulk d + 1
  | .map entries => uptoBulkEntries entries + 1
  | .held _ => 1
def uptoBulkAll {H : Type} : List (DataW H) → Nat
  | [] => 0
  | d :: r => uptoBulk d + uptoBulkAll r
def uptoBulkEntries {H : Type} : List (Lit × DataW H) → Nat
  | [] => 0
  | x :: r => uptoBulkEntry x + uptoBulkEntries r
def uptoBulkEntry {H : Type} : Lit × DataW H → Nat
  | (.string bytes, d) => bytes.length + uptoBulk d + 1
  | (_, d) => uptoBulk d + 1
 end
def uptoSmall : (H : Type) → List (DataW H) → Bool := fun _ ds => decide (uptoBulkAll ds ≤ 1048576)
def OpenSpec.upto (s : _root_.Go.ChangeSpec) : _root_.Go.OpenSpec := { _root_.Go.OpenSpec.ofChange s with cond := some uptoSmall }

/-- 'canticlelaw22.CollateReads', WHERE WHAT IT READS IS OF BULK AT MOST 1048576: true; the input reads as it did. -/
def collateReadsUptoRow : OpenClaim := { program := "ytifpjbgnikjglaagreatdoor", sum := "1b4b27ddf50f50023d9b0729dea8ad109101a3e95787fe42d488aa49664af85f", func := "canticle/canticlelaw22.CollateReads", spec := "collateReads", inPlace := ["internal/bytealg.IndexByteString", "internal/bytealg.IndexString", "slices.overlaps[string]", "internal/bytealg.abigen_runtime_cmpstring", "internal/abi.NoEscape"], unfollowed := true, recurses := true, named := ["unicode/utf8.first", "unicode/utf8.acceptRanges", "internal/bytealg.MaxLen"], plainKeys := false, apart := false, laid := [("unicode/utf8.acceptRanges", laid_unicode_utf8_acceptRanges), ("unicode/utf8.first", laid_unicode_utf8_first)], narrowed := true }
def CollateReadsUptoSaid : Prop := collateReadsUptoRow.holds Tryz.pinned (OpenSpec.upto collateReadsSpec)

/-- 'canticlelaw22.CollateCompares', WHERE WHAT IT READS IS OF BULK AT MOST 1048576: true; the input reads as it did. -/
def collateComparesUptoRow : OpenClaim := { program := "ytifpjbgnikjglaagreatdoor", sum := "1b4b27ddf50f50023d9b0729dea8ad109101a3e95787fe42d488aa49664af85f", func := "canticle/canticlelaw22.CollateCompares", spec := "collateCompares", inPlace := ["internal/bytealg.IndexByteString", "internal/bytealg.IndexString", "slices.overlaps[string]", "internal/bytealg.abigen_runtime_cmpstring", "internal/abi.NoEscape", "internal/bytealg.Compare"], unfollowed := true, recurses := true, named := ["unicode/utf8.first", "unicode/utf8.acceptRanges", "internal/bytealg.MaxLen"], plainKeys := false, apart := false, laid := [("unicode/utf8.acceptRanges", laid_unicode_utf8_acceptRanges), ("unicode/utf8.first", laid_unicode_utf8_first)], narrowed := true }
def CollateComparesUptoSaid : Prop := collateComparesUptoRow.holds Tryz.pinned (OpenSpec.upto collateComparesSpec)

/-- 'canticlelaw22.CollateSorts', WHERE WHAT IT READS IS OF BULK AT MOST 1048576: true; the input reads as it did. -/
def collateSortsUptoRow : OpenClaim := { program := "ytifpjbgnikjglaagreatdoor", sum := "1b4b27ddf50f50023d9b0729dea8ad109101a3e95787fe42d488aa49664af85f", func := "canticle/canticlelaw22.CollateSorts", spec := "collateSorts", inPlace := ["internal/bytealg.IndexByteString", "internal/bytealg.IndexString", "slices.overlaps[string]", "internal/bytealg.abigen_runtime_cmpstring", "internal/abi.NoEscape"], unfollowed := true, recurses := true, named := ["unicode/utf8.first", "unicode/utf8.acceptRanges", "internal/bytealg.MaxLen"], plainKeys := false, apart := false, laid := [("unicode/utf8.acceptRanges", laid_unicode_utf8_acceptRanges), ("unicode/utf8.first", laid_unicode_utf8_first)], narrowed := true }
def CollateSortsUptoSaid : Prop := collateSortsUptoRow.holds Tryz.pinned (OpenSpec.upto collateSortsSpec)

/-- 'canticlelaw22.CollateHeadings', WHERE WHAT IT READS IS OF BULK AT MOST 1048576: true; the input reads as it did. -/
def collateHeadingsUptoRow : OpenClaim := { program := "ytifpjbgnikjglaagreatdoor", sum := "1b4b27ddf50f50023d9b0729dea8ad109101a3e95787fe42d488aa49664af85f", func := "canticle/canticlelaw22.CollateHeadings", spec := "collateHeadings", inPlace := ["internal/bytealg.IndexByteString", "internal/bytealg.IndexString", "slices.overlaps[string]", "internal/bytealg.abigen_runtime_cmpstring", "internal/abi.NoEscape"], unfollowed := true, recurses := true, named := ["unicode/utf8.first", "unicode/utf8.acceptRanges", "internal/bytealg.MaxLen"], plainKeys := false, apart := false, laid := [("unicode/utf8.acceptRanges", laid_unicode_utf8_acceptRanges), ("unicode/utf8.first", laid_unicode_utf8_first)], narrowed := true }
def CollateHeadingsUptoSaid : Prop := collateHeadingsUptoRow.holds Tryz.pinned (OpenSpec.upto collateHeadingsSpec)

end Rows
end Go.Proofs.YtifpjbgnikjglaaGreatDoor

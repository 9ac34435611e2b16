/-
  NARROWER THAN 'FOR EVERY INPUT', by the rows' own cells (each row's printed sentence says how): PoemBytes: laid · PoemBack: laid · PoemJoined: laid · PoemCut: laid · PoemReads: laid · PoemChanges: laid · PoemMakes: laid · PoemWords: laid · PoemKnown: laid.
  DERIVED. THE GIVEN ROWS OF THIS SEAT. 9 by the template 'for every input the law returns true; each argument reads behind the call as it read before'; 0 by the template 'total and deterministic' (their statements: YtgfkogafkhbgnaaDoorTotals.lean).
  GIVEN WITH THE SEED: the statements are not yours to turn. If you find one false, say at which input.
  Laid BY PROGRAM, IN A SANDBOX (cutbox-rows.mjs): the forced cells as the released guide's own fill.sh prints them over the translation 3be35bb86aed4d89… (all of the seat's roots in one cut). By AI agents, Wed Nov 11 2026. No macro, syntax, notation, axiom, sorry.
-/
import Derived.Test.YtgfkogafkhbgnaaDoorChecked
import GoSem.PinnedTables
import GoSem.Claim
import GoSem.ClaimJoined
import GoSem.ClaimMapViews
import Derived.JoinedTies
import Derived.KernelRfl
namespace Go.Proofs.YtgfkogafkhbgnaaDoor
/- THE CELL 'sum', in the pinned program and in every row, IS THE sha256 OF THE DUMP (.gsa) THAT YtgfkogafkhbgnaaDoorProg.lean LOADS. Nothing in Lean hashes anything: it is a label: what it is worth is what the hold of that sum in a sandbox is worth. -/
noncomputable def Tryd.pinned : Pinned := { name := "ytgfkogafkhbgnaadoor", sum := "3be35bb86aed4d89e4192f4734ab502cc864b3410f87faddcb4b30f82d658b53", checked := Tryd.checked }
namespace Rows
def none {H : Type} : Left H := { results := [], args := [] }

/- WHAT THE LISTED PACKAGE-LEVEL VARIABLES READ AS WHEN THE CALL BEGINS. Each datum BY PROGRAM (the guide's laid-datum.mjs) off the statement by which the dump's own 'gosem.cut.vars' lays the variable. In a bare row this is a premise. The card (YtgfkogafkhbgnaaDoorCards.lean) ties it to the program's text. -/
def laid_unicode_utf8_acceptRanges {H : Type} : DataW H := .agg [.agg [.lit (.int .u8 128), .lit (.int .u8 191)], .agg [.lit (.int .u8 160), .lit (.int .u8 191)], .agg [.lit (.int .u8 128), .lit (.int .u8 159)], .agg [.lit (.int .u8 144), .lit (.int .u8 191)], .agg [.lit (.int .u8 128), .lit (.int .u8 143)], .agg [.lit (.int .u8 0), .lit (.int .u8 0)], .agg [.lit (.int .u8 0), .lit (.int .u8 0)], .agg [.lit (.int .u8 0), .lit (.int .u8 0)], .agg [.lit (.int .u8 0), .lit (.int .u8 0)], .agg [.lit (.int .u8 0), .lit (.int .u8 0)], .agg [.lit (.int .u8 0), .lit (.int .u8 0)], .agg [.lit (.int .u8 0), .lit (.int .u8 0)], .agg [.lit (.int .u8 0), .lit (.int .u8 0)], .agg [.lit (.int .u8 0), .lit (.int .u8 0)], .agg [.lit (.int .u8 0), .lit (.int .u8 0)], .agg [.lit (.int .u8 0), .lit (.int .u8 0)]]
/-- One of Go's own tables, pinned by name: the form's constant. -/
def laid_unicode_utf8_first : DataW Unit := Go.Pinned.utf8First

/-- 'canticlelaw17.PoemBytes': WHATEVER THE INPUT: true; the input reads as it did. -/
def poemBytesSpec : ChangeSpec := { name := "poemBytes", fn := fun _ => fun
  | [d] => { results := [.lit (.bool true)], args := [d] }
  | _ => none }
def poemBytesRow : OpenClaim := { program := "ytgfkogafkhbgnaadoor", sum := "3be35bb86aed4d89e4192f4734ab502cc864b3410f87faddcb4b30f82d658b53", func := "canticle/canticlelaw17.PoemBytes", spec := "poemBytes", inPlace := ["internal/bytealg.IndexByteString", "internal/bytealg.IndexString", "internal/abi.NoEscape", "internal/bytealg.MakeNoZero"], unfollowed := true, recurses := true, named := ["unicode/utf8.first", "unicode/utf8.acceptRanges", "internal/bytealg.MaxLen"], apart := false, laid := [("unicode/utf8.acceptRanges", laid_unicode_utf8_acceptRanges), ("unicode/utf8.first", laid_unicode_utf8_first)] }
def PoemBytesSaid : Prop := poemBytesRow.holds Tryd.pinned (OpenSpec.ofChange poemBytesSpec)

/-- ITS FALSE NEIGHBOUR: 'it returns false'. Refute it at one input. -/
def poemBytesWrong : ChangeSpec := { name := "poemBytes", fn := fun _ => fun
  | [d] => { results := [.lit (.bool false)], args := [d] }
  | _ => none }
def PoemBytesWrongFalsely : Prop := poemBytesRow.holds Tryd.pinned (OpenSpec.ofChange poemBytesWrong)

/-- 'canticlelaw17.PoemBack': WHATEVER THE INPUT: true; the input reads as it did. -/
def poemBackSpec : ChangeSpec := { name := "poemBack", fn := fun _ => fun
  | [d] => { results := [.lit (.bool true)], args := [d] }
  | _ => none }
def poemBackRow : OpenClaim := { program := "ytgfkogafkhbgnaadoor", sum := "3be35bb86aed4d89e4192f4734ab502cc864b3410f87faddcb4b30f82d658b53", func := "canticle/canticlelaw17.PoemBack", spec := "poemBack", inPlace := ["internal/bytealg.IndexByteString", "internal/bytealg.IndexString", "internal/abi.NoEscape", "internal/bytealg.MakeNoZero"], unfollowed := true, recurses := true, named := ["unicode/utf8.first", "unicode/utf8.acceptRanges", "internal/bytealg.MaxLen"], apart := false, laid := [("unicode/utf8.acceptRanges", laid_unicode_utf8_acceptRanges), ("unicode/utf8.first", laid_unicode_utf8_first)] }
def PoemBackSaid : Prop := poemBackRow.holds Tryd.pinned (OpenSpec.ofChange poemBackSpec)

/-- ITS FALSE NEIGHBOUR: 'it returns false'. Refute it at one input. -/
def poemBackWrong : ChangeSpec := { name := "poemBack", fn := fun _ => fun
  | [d] => { results := [.lit (.bool false)], args := [d] }
  | _ => none }
def PoemBackWrongFalsely : Prop := poemBackRow.holds Tryd.pinned (OpenSpec.ofChange poemBackWrong)

/-- 'canticlelaw17.PoemJoined': WHATEVER THE INPUT: true; the input reads as it did. -/
def poemJoinedSpec : ChangeSpec := { name := "poemJoined", fn := fun _ => fun
  | [d1, d2, d3] => { results := [.lit (.bool true)], args := [d1, d2, d3] }
  | _ => none }
def poemJoinedRow : OpenClaim := { program := "ytgfkogafkhbgnaadoor", sum := "3be35bb86aed4d89e4192f4734ab502cc864b3410f87faddcb4b30f82d658b53", func := "canticle/canticlelaw17.PoemJoined", spec := "poemJoined", inPlace := ["internal/bytealg.IndexByteString", "internal/bytealg.IndexString", "internal/abi.NoEscape", "internal/bytealg.MakeNoZero"], unfollowed := true, recurses := true, named := ["unicode/utf8.first", "unicode/utf8.acceptRanges", "internal/bytealg.MaxLen"], apart := false, laid := [("unicode/utf8.acceptRanges", laid_unicode_utf8_acceptRanges), ("unicode/utf8.first", laid_unicode_utf8_first)] }
def PoemJoinedSaid : Prop := poemJoinedRow.holds Tryd.pinned (OpenSpec.ofChange poemJoinedSpec)

/-- ITS FALSE NEIGHBOUR: 'it returns false'. Refute it at one input. -/
def poemJoinedWrong : ChangeSpec := { name := "poemJoined", fn := fun _ => fun
  | [d1, d2, d3] => { results := [.lit (.bool false)], args := [d1, d2, d3] }
  | _ => none }
def PoemJoinedWrongFalsely : Prop := poemJoinedRow.holds Tryd.pinned (OpenSpec.ofChange poemJoinedWrong)

/-- 'canticlelaw17.PoemCut': WHATEVER THE INPUT: true; the input reads as it did. -/
def poemCutSpec : ChangeSpec := { name := "poemCut", fn := fun _ => fun
  | [d1, d2] => { results := [.lit (.bool true)], args := [d1, d2] }
  | _ => none }
def poemCutRow : OpenClaim := { program := "ytgfkogafkhbgnaadoor", sum := "3be35bb86aed4d89e4192f4734ab502cc864b3410f87faddcb4b30f82d658b53", func := "canticle/canticlelaw17.PoemCut", spec := "poemCut", inPlace := ["internal/bytealg.IndexByteString", "internal/bytealg.IndexString", "internal/abi.NoEscape", "internal/bytealg.MakeNoZero"], unfollowed := true, recurses := true, named := ["unicode/utf8.first", "unicode/utf8.acceptRanges", "internal/bytealg.MaxLen"], apart := false, laid := [("unicode/utf8.acceptRanges", laid_unicode_utf8_acceptRanges), ("unicode/utf8.first", laid_unicode_utf8_first)] }
def PoemCutSaid : Prop := poemCutRow.holds Tryd.pinned (OpenSpec.ofChange poemCutSpec)

/-- ITS FALSE NEIGHBOUR: 'it returns false'. Refute it at one input. -/
def poemCutWrong : ChangeSpec := { name := "poemCut", fn := fun _ => fun
  | [d1, d2] => { results := [.lit (.bool false)], args := [d1, d2] }
  | _ => none }
def PoemCutWrongFalsely : Prop := poemCutRow.holds Tryd.pinned (OpenSpec.ofChange poemCutWrong)

/-- 'canticlelaw17.PoemReads': WHATEVER THE INPUT: true; the input reads as it did. -/
def poemReadsSpec : ChangeSpec := { name := "poemReads", fn := fun _ => fun
  | [d1, d2] => { results := [.lit (.bool true)], args := [d1, d2] }
  | _ => none }
def poemReadsRow : OpenClaim := { program := "ytgfkogafkhbgnaadoor", sum := "3be35bb86aed4d89e4192f4734ab502cc864b3410f87faddcb4b30f82d658b53", func := "canticle/canticlelaw17.PoemReads", spec := "poemReads", inPlace := ["internal/bytealg.IndexByteString", "internal/bytealg.IndexString", "internal/abi.NoEscape", "internal/bytealg.MakeNoZero"], unfollowed := true, recurses := true, named := ["unicode/utf8.first", "unicode/utf8.acceptRanges", "internal/bytealg.MaxLen"], apart := false, laid := [("unicode/utf8.acceptRanges", laid_unicode_utf8_acceptRanges), ("unicode/utf8.first", laid_unicode_utf8_first)] }
def PoemReadsSaid : Prop := poemReadsRow.holds Tryd.pinned (OpenSpec.ofChange poemReadsSpec)

/-- ITS FALSE NEIGHBOUR: 'it returns false'. Refute it at one input. -/
def poemReadsWrong : ChangeSpec := { name := "poemReads", fn := fun _ => fun
  | [d1, d2] => { results := [.lit (.bool false)], args := [d1, d2] }
  | _ => none }
def PoemReadsWrongFalsely : Prop := poemReadsRow.holds Tryd.pinned (OpenSpec.ofChange poemReadsWrong)

/-- 'canticlelaw17.PoemChanges': WHATEVER THE INPUT: true; the input reads as it did. -/
def poemChangesSpec : ChangeSpec := { name := "poemChanges", fn := fun _ => fun
  | [d1, d2, d3, d4, d5, d6] => { results := [.lit (.bool true)], args := [d1, d2, d3, d4, d5, d6] }
  | _ => none }
def poemChangesRow : OpenClaim := { program := "ytgfkogafkhbgnaadoor", sum := "3be35bb86aed4d89e4192f4734ab502cc864b3410f87faddcb4b30f82d658b53", func := "canticle/canticlelaw17.PoemChanges", spec := "poemChanges", inPlace := ["internal/bytealg.IndexByteString", "internal/bytealg.IndexString", "internal/abi.NoEscape", "internal/bytealg.MakeNoZero"], unfollowed := true, recurses := true, named := ["unicode/utf8.first", "unicode/utf8.acceptRanges", "internal/bytealg.MaxLen"], apart := false, laid := [("unicode/utf8.acceptRanges", laid_unicode_utf8_acceptRanges), ("unicode/utf8.first", laid_unicode_utf8_first)] }
def PoemChangesSaid : Prop := poemChangesRow.holds Tryd.pinned (OpenSpec.ofChange poemChangesSpec)

/-- ITS FALSE NEIGHBOUR: 'it returns false'. Refute it at one input. -/
def poemChangesWrong : ChangeSpec := { name := "poemChanges", fn := fun _ => fun
  | [d1, d2, d3, d4, d5, d6] => { results := [.lit (.bool false)], args := [d1, d2, d3, d4, d5, d6] }
  | _ => none }
def PoemChangesWrongFalsely : Prop := poemChangesRow.holds Tryd.pinned (OpenSpec.ofChange poemChangesWrong)

/-- 'canticlelaw17.PoemMakes': WHATEVER THE INPUT: true; the input reads as it did. -/
def poemMakesSpec : ChangeSpec := { name := "poemMakes", fn := fun _ => fun
  | [d1, d2] => { results := [.lit (.bool true)], args := [d1, d2] }
  | _ => none }
def poemMakesRow : OpenClaim := { program := "ytgfkogafkhbgnaadoor", sum := "3be35bb86aed4d89e4192f4734ab502cc864b3410f87faddcb4b30f82d658b53", func := "canticle/canticlelaw17.PoemMakes", spec := "poemMakes", inPlace := ["internal/bytealg.IndexByteString", "internal/bytealg.IndexString", "internal/abi.NoEscape", "internal/bytealg.MakeNoZero"], unfollowed := true, recurses := true, named := ["unicode/utf8.first", "unicode/utf8.acceptRanges", "internal/bytealg.MaxLen"], apart := false, laid := [("unicode/utf8.acceptRanges", laid_unicode_utf8_acceptRanges), ("unicode/utf8.first", laid_unicode_utf8_first)] }
def PoemMakesSaid : Prop := poemMakesRow.holds Tryd.pinned (OpenSpec.ofChange poemMakesSpec)

/-- ITS FALSE NEIGHBOUR: 'it returns false'. Refute it at one input. -/
def poemMakesWrong : ChangeSpec := { name := "poemMakes", fn := fun _ => fun
  | [d1, d2] => { results := [.lit (.bool false)], args := [d1, d2] }
  | _ => none }
def PoemMakesWrongFalsely : Prop := poemMakesRow.holds Tryd.pinned (OpenSpec.ofChange poemMakesWrong)

/-- 'canticlelaw17.PoemWords': WHATEVER THE INPUT: true; the input reads as it did. -/
def poemWordsSpec : ChangeSpec := { name := "poemWords", fn := fun _ => fun
  | [d1, d2] => { results := [.lit (.bool true)], args := [d1, d2] }
  | _ => none }
def poemWordsRow : OpenClaim := { program := "ytgfkogafkhbgnaadoor", sum := "3be35bb86aed4d89e4192f4734ab502cc864b3410f87faddcb4b30f82d658b53", func := "canticle/canticlelaw17.PoemWords", spec := "poemWords", inPlace := ["internal/bytealg.IndexByteString", "internal/bytealg.IndexString", "internal/abi.NoEscape", "internal/bytealg.MakeNoZero"], unfollowed := true, recurses := true, named := ["unicode/utf8.first", "unicode/utf8.acceptRanges", "internal/bytealg.MaxLen"], apart := false, laid := [("unicode/utf8.acceptRanges", laid_unicode_utf8_acceptRanges), ("unicode/utf8.first", laid_unicode_utf8_first)] }
def PoemWordsSaid : Prop := poemWordsRow.holds Tryd.pinned (OpenSpec.ofChange poemWordsSpec)

/-- ITS FALSE NEIGHBOUR: 'it returns false'. Refute it at one input. -/
def poemWordsWrong : ChangeSpec := { name := "poemWords", fn := fun _ => fun
  | [d1, d2] => { results := [.lit (.bool false)], args := [d1, d2] }
  | _ => none }
def PoemWordsWrongFalsely : Prop := poemWordsRow.holds Tryd.pinned (OpenSpec.ofChange poemWordsWrong)

/-- 'canticlelaw17.PoemKnown': WHATEVER THE INPUT: true; the input reads as it did. -/
def poemKnownSpec : ChangeSpec := { name := "poemKnown", fn := fun _ => fun
  | [] => { results := [.lit (.bool true)], args := [] }
  | _ => none }
def poemKnownRow : OpenClaim := { program := "ytgfkogafkhbgnaadoor", sum := "3be35bb86aed4d89e4192f4734ab502cc864b3410f87faddcb4b30f82d658b53", func := "canticle/canticlelaw17.PoemKnown", spec := "poemKnown", inPlace := ["internal/bytealg.IndexByteString", "internal/bytealg.IndexString", "internal/abi.NoEscape", "internal/bytealg.MakeNoZero"], unfollowed := true, recurses := true, named := ["unicode/utf8.first", "unicode/utf8.acceptRanges", "internal/bytealg.MaxLen"], apart := false, laid := [("unicode/utf8.acceptRanges", laid_unicode_utf8_acceptRanges), ("unicode/utf8.first", laid_unicode_utf8_first)] }
def PoemKnownSaid : Prop := poemKnownRow.holds Tryd.pinned (OpenSpec.ofChange poemKnownSpec)

/-- ITS FALSE NEIGHBOUR: 'it returns false'. Refute it at one input. -/
def poemKnownWrong : ChangeSpec := { name := "poemKnown", fn := fun _ => fun
  | [] => { results := [.lit (.bool false)], args := [] }
  | _ => none }
def PoemKnownWrongFalsely : Prop := poemKnownRow.holds Tryd.pinned (OpenSpec.ofChange poemKnownWrong)

/- THE SECOND FORM. 'bulk': how many values and letters a reading holds, each counted each time it is reached (what is shared counts as often as it is met; a slice's spare places count too). A statement '..UptoSaid' is the law's where the arguments, and the package variables that the reading takes, are together of bulk at most 1048576: NARROWER than '..Said'. Prove '..Said' where nothing that the law and all that it calls make is longer than what came in: it says more and counts as full. Else prove '..UptoSaid'. A law counts once. -/
mutual
def uptoBulk {H : Type} : DataW H → Nat
  | .lit (.string bytes) => bytes.length + 1
  | .lit _ => 1
  | .nil => 1
  | .ptr d => uptoBulk d + 1
  | .slice elems spare => uptoBulkAll elems + uptoBulkAll spare + 1
  | .agg parts => uptoBulkAll parts + 1
  | .iface _ d => uptoBulk d + 1
  | .map entries => uptoBulkEntries entries + 1
  | .held _ => 1
def uptoBulkAll {H : Type} : List (DataW H) → Nat
  | [] => 0
  | d :: r => uptoBulk d + uptoBulkAll r
def uptoBulkEntries {H : Type} : List (Lit × DataW H) → Nat
  | [] => 0
  | x :: r => uptoBulkEntry x + uptoBulkEntries r
def uptoBulkEntry {H : Type} : Lit × DataW H → Nat
  | (.string bytes, d) => bytes.length + uptoBulk d + 1
  | (_, d) => uptoBulk d + 1
 end
def uptoSmall : (H : Type) → List (DataW H) → Bool := fun _ ds => decide (uptoBulkAll ds ≤ 1048576)
def OpenSpec.upto (s : _root_.Go.ChangeSpec) : _root_.Go.OpenSpec := { _root_.Go.OpenSpec.ofChange s with cond := some uptoSmall }

/-- 'canticlelaw17.PoemBytes', WHERE WHAT IT READS IS OF BULK AT MOST 1048576: true; the input reads as it did. -/
def poemBytesUptoRow : OpenClaim := { program := "ytgfkogafkhbgnaadoor", sum := "3be35bb86aed4d89e4192f4734ab502cc864b3410f87faddcb4b30f82d658b53", func := "canticle/canticlelaw17.PoemBytes", spec := "poemBytes", inPlace := ["internal/bytealg.IndexByteString", "internal/bytealg.IndexString", "internal/abi.NoEscape", "internal/bytealg.MakeNoZero"], unfollowed := true, recurses := true, named := ["unicode/utf8.first", "unicode/utf8.acceptRanges", "internal/bytealg.MaxLen"], apart := false, laid := [("unicode/utf8.acceptRanges", laid_unicode_utf8_acceptRanges), ("unicode/utf8.first", laid_unicode_utf8_first)], narrowed := true }
def PoemBytesUptoSaid : Prop := poemBytesUptoRow.holds Tryd.pinned (OpenSpec.upto poemBytesSpec)

/-- 'canticlelaw17.PoemBack', WHERE WHAT IT READS IS OF BULK AT MOST 1048576: true; the input reads as it did. -/
def poemBackUptoRow : OpenClaim := { program := "ytgfkogafkhbgnaadoor", sum := "3be35bb86aed4d89e4192f4734ab502cc864b3410f87faddcb4b30f82d658b53", func := "canticle/canticlelaw17.PoemBack", spec := "poemBack", inPlace := ["internal/bytealg.IndexByteString", "internal/bytealg.IndexString", "internal/abi.NoEscape", "internal/bytealg.MakeNoZero"], unfollowed := true, recurses := true, named := ["unicode/utf8.first", "unicode/utf8.acceptRanges", "internal/bytealg.MaxLen"], apart := false, laid := [("unicode/utf8.acceptRanges", laid_unicode_utf8_acceptRanges), ("unicode/utf8.first", laid_unicode_utf8_first)], narrowed := true }
def PoemBackUptoSaid : Prop := poemBackUptoRow.holds Tryd.pinned (OpenSpec.upto poemBackSpec)

/-- 'canticlelaw17.PoemJoined', WHERE WHAT IT READS IS OF BULK AT MOST 1048576: true; the input reads as it did. -/
def poemJoinedUptoRow : OpenClaim := { program := "ytgfkogafkhbgnaadoor", sum := "3be35bb86aed4d89e4192f4734ab502cc864b3410f87faddcb4b30f82d658b53", func := "canticle/canticlelaw17.PoemJoined", spec := "poemJoined", inPlace := ["internal/bytealg.IndexByteString", "internal/bytealg.IndexString", "internal/abi.NoEscape", "internal/bytealg.MakeNoZero"], unfollowed := true, recurses := true, named := ["unicode/utf8.first", "unicode/utf8.acceptRanges", "internal/bytealg.MaxLen"], apart := false, laid := [("unicode/utf8.acceptRanges", laid_unicode_utf8_acceptRanges), ("unicode/utf8.first", laid_unicode_utf8_first)], narrowed := true }
def PoemJoinedUptoSaid : Prop := poemJoinedUptoRow.holds Tryd.pinned (OpenSpec.upto poemJoinedSpec)

/-- 'canticlelaw17.PoemCut', WHERE WHAT IT READS IS OF BULK AT MOST 1048576: true; the input reads as it did. -/
def poemCutUptoRow : OpenClaim := { program := "ytgfkogafkhbgnaadoor", sum := "3be35bb86aed4d89e4192f4734ab502cc864b3410f87faddcb4b30f82d658b53", func := "canticle/canticlelaw17.PoemCut", spec := "poemCut", inPlace := ["internal/bytealg.IndexByteString", "internal/bytealg.IndexString", "internal/abi.NoEscape", "internal/bytealg.MakeNoZero"], unfollowed := true, recurses := true, named := ["unicode/utf8.first", "unicode/utf8.acceptRanges", "internal/bytealg.MaxLen"], apart := false, laid := [("unicode/utf8.acceptRanges", laid_unicode_utf8_acceptRanges), ("unicode/utf8.first", laid_unicode_utf8_first)], narrowed := true }
def PoemCutUptoSaid : Prop := poemCutUptoRow.holds Tryd.pinned (OpenSpec.upto poemCutSpec)

/-- 'canticlelaw17.PoemReads', WHERE WHAT IT READS IS OF BULK AT MOST 1048576: true; the input reads as it did. -/
def poemReadsUptoRow : OpenClaim := { program := "ytgfkogafkhbgnaadoor", sum := "3be35bb86aed4d89e4192f4734ab502cc864b3410f87faddcb4b30f82d658b53", func := "canticle/canticlelaw17.PoemReads", spec := "poemReads", inPlace := ["internal/bytealg.IndexByteString", "internal/bytealg.IndexString", "internal/abi.NoEscape", "internal/bytealg.MakeNoZero"], unfollowed := true, recurses := true, named := ["unicode/utf8.first", "unicode/utf8.acceptRanges", "internal/bytealg.MaxLen"], apart := false, laid := [("unicode/utf8.acceptRanges", laid_unicode_utf8_acceptRanges), ("unicode/utf8.first", laid_unicode_utf8_first)], narrowed := true }
def PoemReadsUptoSaid : Prop := poemReadsUptoRow.holds Tryd.pinned (OpenSpec.upto poemReadsSpec)

/-- 'canticlelaw17.PoemChanges', WHERE WHAT IT READS IS OF BULK AT MOST 1048576: true; the input reads as it did. -/
def poemChangesUptoRow : OpenClaim := { program := "ytgfkogafkhbgnaadoor", sum := "3be35bb86aed4d89e4192f4734ab502cc864b3410f87faddcb4b30f82d658b53", func := "canticle/canticlelaw17.PoemChanges", spec := "poemChanges", inPlace := ["internal/bytealg.IndexByteString", "internal/bytealg.IndexString", "internal/abi.NoEscape", "internal/bytealg.MakeNoZero"], unfollowed := true, recurses := true, named := ["unicode/utf8.first", "unicode/utf8.acceptRanges", "internal/bytealg.MaxLen"], apart := false, laid := [("unicode/utf8.acceptRanges", laid_unicode_utf8_acceptRanges), ("unicode/utf8.first", laid_unicode_utf8_first)], narrowed := true }
def PoemChangesUptoSaid : Prop := poemChangesUptoRow.holds Tryd.pinned (OpenSpec.upto poemChangesSpec)

/-- 'canticlelaw17.PoemMakes', WHERE WHAT IT READS IS OF BULK AT MOST 1048576: true; the input reads as it did. -/
def poemMakesUptoRow : OpenClaim := { program := "ytgfkogafkhbgnaadoor", sum := "3be35bb86aed4d89e4192f4734ab502cc864b3410f87faddcb4b30f82d658b53", func := "canticle/canticlelaw17.PoemMakes", spec := "poemMakes", inPlace := ["internal/bytealg.IndexByteString", "internal/bytealg.IndexString", "internal/abi.NoEscape", "internal/bytealg.MakeNoZero"], unfollowed := true, recurses := true, named := ["unicode/utf8.first", "unicode/utf8.acceptRanges", "internal/bytealg.MaxLen"], apart := false, laid := [("unicode/utf8.acceptRanges", laid_unicode_utf8_acceptRanges), ("unicode/utf8.first", laid_unicode_utf8_first)], narrowed := true }
def PoemMakesUptoSaid : Prop := poemMakesUptoRow.holds Tryd.pinned (OpenSpec.upto poemMakesSpec)

/-- 'canticlelaw17.PoemWords', WHERE WHAT IT READS IS OF BULK AT MOST 1048576: true; the input reads as it did. -/
def poemWordsUptoRow : OpenClaim := { program := "ytgfkogafkhbgnaadoor", sum := "3be35bb86aed4d89e4192f4734ab502cc864b3410f87faddcb4b30f82d658b53", func := "canticle/canticlelaw17.PoemWords", spec := "poemWords", inPlace := ["internal/bytealg.IndexByteString", "internal/bytealg.IndexString", "internal/abi.NoEscape", "internal/bytealg.MakeNoZero"], unfollowed := true, recurses := true, named := ["unicode/utf8.first", "unicode/utf8.acceptRanges", "internal/bytealg.MaxLen"], apart := false, laid := [("unicode/utf8.acceptRanges", laid_unicode_utf8_acceptRanges), ("unicode/utf8.first", laid_unicode_utf8_first)], narrowed := true }
def PoemWordsUptoSaid : Prop := poemWordsUptoRow.holds Tryd.pinned (OpenSpec.upto poemWordsSpec)

/-- 'canticlelaw17.PoemKnown', WHERE WHAT IT READS IS OF BULK AT MOST 1048576: true; the input reads as it did. -/
def poemKnownUptoRow : OpenClaim := { program := "ytgfkogafkhbgnaadoor", sum := "3be35bb86aed4d89e4192f4734ab502cc864b3410f87faddcb4b30f82d658b53", func := "canticle/canticlelaw17.PoemKnown", spec := "poemKnown", inPlace := ["internal/bytealg.IndexByteString", "internal/bytealg.IndexString", "internal/abi.NoEscape", "internal/bytealg.MakeNoZero"], unfollowed := true, recurses := true, named := ["unicode/utf8.first", "unicode/utf8.acceptRanges", "internal/bytealg.MaxLen"], apart := false, laid := [("unicode/utf8.acceptRanges", laid_unicode_utf8_acceptRanges), ("unicode/utf8.first", laid_unicode_utf8_first)], narrowed := true }
def PoemKnownUptoSaid : Prop := poemKnownUptoRow.holds Tryd.pinned (OpenSpec.upto poemKnownSpec)

end Rows
end Go.Proofs.YtgfkogafkhbgnaaDoor

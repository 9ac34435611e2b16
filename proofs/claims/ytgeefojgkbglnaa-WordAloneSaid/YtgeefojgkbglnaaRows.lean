/-
  No cell of these rows narrows 'for every input' (looked for: loops, veiled, ifaces, maps, wideKeys, modest, calm, conditions, laid).
  DERIVED. THE GIVEN ROWS OF THIS SEAT. 9 by the template 'for every input the law returns true; each argument reads behind the call as it read before'; 0 by the template 'total and deterministic' (their statements: YtgeefojgkbglnaaTotals.lean).
  GIVEN WITH THE SEED: the statements are not yours to turn. If you find one false, say at which input.
  Laid BY PROGRAM, IN A SANDBOX (cutbox-rows.mjs): the forced cells as the released guide's own fill.sh prints them over the translation 9e280c7360028ec5… (all of the seat's roots in one cut). By AI agents, Wed Nov 11 2026. No macro, syntax, notation, axiom, sorry.
-/
import Derived.Test.YtgeefojgkbglnaaChecked
import GoSem.Claim
import GoSem.ClaimJoined
import GoSem.ClaimMapViews
import Derived.JoinedTies
import Derived.KernelRfl
namespace Go.Proofs.Ytgeefojgkbglnaa
/- THE CELL 'sum', in the pinned program and in every row, IS THE sha256 OF THE DUMP (.gsa) THAT YtgeefojgkbglnaaProg.lean LOADS. Nothing in Lean hashes anything: it is a label: what it is worth is what the hold of that sum in a sandbox is worth. -/
noncomputable def Try.pinned : Pinned := { name := "ytgeefojgkbglnaa", sum := "9e280c7360028ec5b6ffe7bba6a21f697650ad0dc9f6c0bf844bf8bae200387a", checked := Try.checked }
namespace Rows
def none {H : Type} : Left H := { results := [], args := [] }

/-- 'canticlelaw07.WordScans': WHATEVER THE INPUT: true; the input reads as it did. -/
def wordScansSpec : ChangeSpec := { name := "wordScans", fn := fun _ => fun
  | [d] => { results := [.lit (.bool true)], args := [d] }
  | _ => none }
def wordScansRow : OpenClaim := { program := "ytgeefojgkbglnaa", sum := "9e280c7360028ec5b6ffe7bba6a21f697650ad0dc9f6c0bf844bf8bae200387a", func := "canticle/canticlelaw07.WordScans", spec := "wordScans", unfollowed := true, recurses := true, plainKeys := false, apart := false }
def WordScansSaid : Prop := wordScansRow.holds Try.pinned (OpenSpec.ofChange wordScansSpec)

/-- ITS FALSE NEIGHBOUR: 'it returns false'. Refute it at one input. -/
def wordScansWrong : ChangeSpec := { name := "wordScans", fn := fun _ => fun
  | [d] => { results := [.lit (.bool false)], args := [d] }
  | _ => none }
def WordScansWrongFalsely : Prop := wordScansRow.holds Try.pinned (OpenSpec.ofChange wordScansWrong)

/-- 'canticlelaw07.WordOnes': WHATEVER THE INPUT: true; the input reads as it did. -/
def wordOnesSpec : ChangeSpec := { name := "wordOnes", fn := fun _ => fun
  | [d] => { results := [.lit (.bool true)], args := [d] }
  | _ => none }
def wordOnesRow : OpenClaim := { program := "ytgeefojgkbglnaa", sum := "9e280c7360028ec5b6ffe7bba6a21f697650ad0dc9f6c0bf844bf8bae200387a", func := "canticle/canticlelaw07.WordOnes", spec := "wordOnes", unfollowed := true, recurses := true, plainKeys := false, apart := false }
def WordOnesSaid : Prop := wordOnesRow.holds Try.pinned (OpenSpec.ofChange wordOnesSpec)

/-- ITS FALSE NEIGHBOUR: 'it returns false'. Refute it at one input. -/
def wordOnesWrong : ChangeSpec := { name := "wordOnes", fn := fun _ => fun
  | [d] => { results := [.lit (.bool false)], args := [d] }
  | _ => none }
def WordOnesWrongFalsely : Prop := wordOnesRow.holds Try.pinned (OpenSpec.ofChange wordOnesWrong)

/-- 'canticlelaw07.WordCovers': WHATEVER THE INPUT: true; the input reads as it did. -/
def wordCoversSpec : ChangeSpec := { name := "wordCovers", fn := fun _ => fun
  | [d] => { results := [.lit (.bool true)], args := [d] }
  | _ => none }
def wordCoversRow : OpenClaim := { program := "ytgeefojgkbglnaa", sum := "9e280c7360028ec5b6ffe7bba6a21f697650ad0dc9f6c0bf844bf8bae200387a", func := "canticle/canticlelaw07.WordCovers", spec := "wordCovers", unfollowed := true, recurses := true, plainKeys := false, apart := false }
def WordCoversSaid : Prop := wordCoversRow.holds Try.pinned (OpenSpec.ofChange wordCoversSpec)

/-- ITS FALSE NEIGHBOUR: 'it returns false'. Refute it at one input. -/
def wordCoversWrong : ChangeSpec := { name := "wordCovers", fn := fun _ => fun
  | [d] => { results := [.lit (.bool false)], args := [d] }
  | _ => none }
def WordCoversWrongFalsely : Prop := wordCoversRow.holds Try.pinned (OpenSpec.ofChange wordCoversWrong)

/-- 'canticlelaw07.WordEdges': WHATEVER THE INPUT: true; the input reads as it did. -/
def wordEdgesSpec : ChangeSpec := { name := "wordEdges", fn := fun _ => fun
  | [d1, d2] => { results := [.lit (.bool true)], args := [d1, d2] }
  | _ => none }
def wordEdgesRow : OpenClaim := { program := "ytgeefojgkbglnaa", sum := "9e280c7360028ec5b6ffe7bba6a21f697650ad0dc9f6c0bf844bf8bae200387a", func := "canticle/canticlelaw07.WordEdges", spec := "wordEdges", unfollowed := true, recurses := true, plainKeys := false, apart := false }
def WordEdgesSaid : Prop := wordEdgesRow.holds Try.pinned (OpenSpec.ofChange wordEdgesSpec)

/-- ITS FALSE NEIGHBOUR: 'it returns false'. Refute it at one input. -/
def wordEdgesWrong : ChangeSpec := { name := "wordEdges", fn := fun _ => fun
  | [d1, d2] => { results := [.lit (.bool false)], args := [d1, d2] }
  | _ => none }
def WordEdgesWrongFalsely : Prop := wordEdgesRow.holds Try.pinned (OpenSpec.ofChange wordEdgesWrong)

/-- 'canticlelaw07.WordNumbers': WHATEVER THE INPUT: true; the input reads as it did. -/
def wordNumbersSpec : ChangeSpec := { name := "wordNumbers", fn := fun _ => fun
  | [d1, d2, d3] => { results := [.lit (.bool true)], args := [d1, d2, d3] }
  | _ => none }
def wordNumbersRow : OpenClaim := { program := "ytgeefojgkbglnaa", sum := "9e280c7360028ec5b6ffe7bba6a21f697650ad0dc9f6c0bf844bf8bae200387a", func := "canticle/canticlelaw07.WordNumbers", spec := "wordNumbers", unfollowed := true, recurses := true, plainKeys := false, apart := false }
def WordNumbersSaid : Prop := wordNumbersRow.holds Try.pinned (OpenSpec.ofChange wordNumbersSpec)

/-- ITS FALSE NEIGHBOUR: 'it returns false'. Refute it at one input. -/
def wordNumbersWrong : ChangeSpec := { name := "wordNumbers", fn := fun _ => fun
  | [d1, d2, d3] => { results := [.lit (.bool false)], args := [d1, d2, d3] }
  | _ => none }
def WordNumbersWrongFalsely : Prop := wordNumbersRow.holds Try.pinned (OpenSpec.ofChange wordNumbersWrong)

/-- 'canticlelaw07.WordPlain': WHATEVER THE INPUT: true; the input reads as it did. -/
def wordPlainSpec : ChangeSpec := { name := "wordPlain", fn := fun _ => fun
  | [d] => { results := [.lit (.bool true)], args := [d] }
  | _ => none }
def wordPlainRow : OpenClaim := { program := "ytgeefojgkbglnaa", sum := "9e280c7360028ec5b6ffe7bba6a21f697650ad0dc9f6c0bf844bf8bae200387a", func := "canticle/canticlelaw07.WordPlain", spec := "wordPlain", unfollowed := true, recurses := true, plainKeys := false, apart := false }
def WordPlainSaid : Prop := wordPlainRow.holds Try.pinned (OpenSpec.ofChange wordPlainSpec)

/-- ITS FALSE NEIGHBOUR: 'it returns false'. Refute it at one input. -/
def wordPlainWrong : ChangeSpec := { name := "wordPlain", fn := fun _ => fun
  | [d] => { results := [.lit (.bool false)], args := [d] }
  | _ => none }
def WordPlainWrongFalsely : Prop := wordPlainRow.holds Try.pinned (OpenSpec.ofChange wordPlainWrong)

/-- 'canticlelaw07.WordPlaces': WHATEVER THE INPUT: true; the input reads as it did. -/
def wordPlacesSpec : ChangeSpec := { name := "wordPlaces", fn := fun _ => fun
  | [d1, d2] => { results := [.lit (.bool true)], args := [d1, d2] }
  | _ => none }
def wordPlacesRow : OpenClaim := { program := "ytgeefojgkbglnaa", sum := "9e280c7360028ec5b6ffe7bba6a21f697650ad0dc9f6c0bf844bf8bae200387a", func := "canticle/canticlelaw07.WordPlaces", spec := "wordPlaces", unfollowed := true, recurses := true, plainKeys := false, apart := false }
def WordPlacesSaid : Prop := wordPlacesRow.holds Try.pinned (OpenSpec.ofChange wordPlacesSpec)

/-- ITS FALSE NEIGHBOUR: 'it returns false'. Refute it at one input. -/
def wordPlacesWrong : ChangeSpec := { name := "wordPlaces", fn := fun _ => fun
  | [d1, d2] => { results := [.lit (.bool false)], args := [d1, d2] }
  | _ => none }
def WordPlacesWrongFalsely : Prop := wordPlacesRow.holds Try.pinned (OpenSpec.ofChange wordPlacesWrong)

/-- 'canticlelaw07.WordAlone': WHATEVER THE INPUT: true; the input reads as it did. -/
def wordAloneSpec : ChangeSpec := { name := "wordAlone", fn := fun _ => fun
  | [d] => { results := [.lit (.bool true)], args := [d] }
  | _ => none }
def wordAloneRow : OpenClaim := { program := "ytgeefojgkbglnaa", sum := "9e280c7360028ec5b6ffe7bba6a21f697650ad0dc9f6c0bf844bf8bae200387a", func := "canticle/canticlelaw07.WordAlone", spec := "wordAlone", unfollowed := true, recurses := true, plainKeys := false, apart := false }
def WordAloneSaid : Prop := wordAloneRow.holds Try.pinned (OpenSpec.ofChange wordAloneSpec)

/-- ITS FALSE NEIGHBOUR: 'it returns false'. Refute it at one input. -/
def wordAloneWrong : ChangeSpec := { name := "wordAlone", fn := fun _ => fun
  | [d] => { results := [.lit (.bool false)], args := [d] }
  | _ => none }
def WordAloneWrongFalsely : Prop := wordAloneRow.holds Try.pinned (OpenSpec.ofChange wordAloneWrong)

/-- 'canticlelaw07.WordLetters': WHATEVER THE INPUT: true; the input reads as it did. -/
def wordLettersSpec : ChangeSpec := { name := "wordLetters", fn := fun _ => fun
  | [d] => { results := [.lit (.bool true)], args := [d] }
  | _ => none }
def wordLettersRow : OpenClaim := { program := "ytgeefojgkbglnaa", sum := "9e280c7360028ec5b6ffe7bba6a21f697650ad0dc9f6c0bf844bf8bae200387a", func := "canticle/canticlelaw07.WordLetters", spec := "wordLetters", unfollowed := true, recurses := true, plainKeys := false, apart := false }
def WordLettersSaid : Prop := wordLettersRow.holds Try.pinned (OpenSpec.ofChange wordLettersSpec)

/-- ITS FALSE NEIGHBOUR: 'it returns false'. Refute it at one input. -/
def wordLettersWrong : ChangeSpec := { name := "wordLetters", fn := fun _ => fun
  | [d] => { results := [.lit (.bool false)], args := [d] }
  | _ => none }
def WordLettersWrongFalsely : Prop := wordLettersRow.holds Try.pinned (OpenSpec.ofChange wordLettersWrong)

/- THE SECOND FORM. 'bulk': how many values and letters a reading holds, each counted each time it is reached (what is shared counts as often as it is met; a slice's spare places count too). A statement '..UptoSaid' is the law's where the arguments, and the package variables that the reading takes, are together of bulk at most 1048576: NARROWER than '..Said'. Prove '..Said' where nothing that the law and all that it calls make is longer than what came in: it says more and counts as full. Else prove '..UptoSaid'. A law counts once. -/
mutual
def uptoBulk {H : Type} : DataW H → Nat
  | .lit (.string bytes) => bytes.length + 1
  | .lit _ => 1
  | .nil => 1
  | .ptr d => uptoBulk d + 1
  | .slice elems spare => uptoBulkAll elems + uptoBulkAll spare + 1
  | .agg parts => uptoBulkAll parts + 1
  | .iface _ d => uptoBulk d + 1
  | .map entries => uptoBulkEntries entries + 1
  | .held _ => 1
def uptoBulkAll {H : Type} : List (DataW H) → Nat
  | [] => 0
  | d :: r => uptoBulk d + uptoBulkAll r
def uptoBulkEntries {H : Type} : List (Lit × DataW H) → Nat
  | [] => 0
  | x :: r => uptoBulkEntry x + uptoBulkEntries r
def uptoBulkEntry {H : Type} : Lit × DataW H → Nat
  | (.string bytes, d) => bytes.length + uptoBulk d + 1
  | (_, d) => uptoBulk d + 1
 end
def uptoSmall : (H : Type) → List (DataW H) → Bool := fun _ ds => decide (uptoBulkAll ds ≤ 1048576)
def OpenSpec.upto (s : _root_.Go.ChangeSpec) : _root_.Go.OpenSpec := { _root_.Go.OpenSpec.ofChange s with cond := some uptoSmall }

/-- 'canticlelaw07.WordScans', WHERE WHAT IT READS IS OF BULK AT MOST 1048576: true; the input reads as it did. -/
def wordScansUptoRow : OpenClaim := { program := "ytgeefojgkbglnaa", sum := "9e280c7360028ec5b6ffe7bba6a21f697650ad0dc9f6c0bf844bf8bae200387a", func := "canticle/canticlelaw07.WordScans", spec := "wordScans", unfollowed := true, recurses := true, plainKeys := false, apart := false, narrowed := true }
def WordScansUptoSaid : Prop := wordScansUptoRow.holds Try.pinned (OpenSpec.upto wordScansSpec)

/-- 'canticlelaw07.WordOnes', WHERE WHAT IT READS IS OF BULK AT MOST 1048576: true; the input reads as it did. -/
def wordOnesUptoRow : OpenClaim := { program := "ytgeefojgkbglnaa", sum := "9e280c7360028ec5b6ffe7bba6a21f697650ad0dc9f6c0bf844bf8bae200387a", func := "canticle/canticlelaw07.WordOnes", spec := "wordOnes", unfollowed := true, recurses := true, plainKeys := false, apart := false, narrowed := true }
def WordOnesUptoSaid : Prop := wordOnesUptoRow.holds Try.pinned (OpenSpec.upto wordOnesSpec)

/-- 'canticlelaw07.WordCovers', WHERE WHAT IT READS IS OF BULK AT MOST 1048576: true; the input reads as it did. -/
def wordCoversUptoRow : OpenClaim := { program := "ytgeefojgkbglnaa", sum := "9e280c7360028ec5b6ffe7bba6a21f697650ad0dc9f6c0bf844bf8bae200387a", func := "canticle/canticlelaw07.WordCovers", spec := "wordCovers", unfollowed := true, recurses := true, plainKeys := false, apart := false, narrowed := true }
def WordCoversUptoSaid : Prop := wordCoversUptoRow.holds Try.pinned (OpenSpec.upto wordCoversSpec)

/-- 'canticlelaw07.WordEdges', WHERE WHAT IT READS IS OF BULK AT MOST 1048576: true; the input reads as it did. -/
def wordEdgesUptoRow : OpenClaim := { program := "ytgeefojgkbglnaa", sum := "9e280c7360028ec5b6ffe7bba6a21f697650ad0dc9f6c0bf844bf8bae200387a", func := "canticle/canticlelaw07.WordEdges", spec := "wordEdges", unfollowed := true, recurses := true, plainKeys := false, apart := false, narrowed := true }
def WordEdgesUptoSaid : Prop := wordEdgesUptoRow.holds Try.pinned (OpenSpec.upto wordEdgesSpec)

/-- 'canticlelaw07.WordNumbers', WHERE WHAT IT READS IS OF BULK AT MOST 1048576: true; the input reads as it did. -/
def wordNumbersUptoRow : OpenClaim := { program := "ytgeefojgkbglnaa", sum := "9e280c7360028ec5b6ffe7bba6a21f697650ad0dc9f6c0bf844bf8bae200387a", func := "canticle/canticlelaw07.WordNumbers", spec := "wordNumbers", unfollowed := true, recurses := true, plainKeys := false, apart := false, narrowed := true }
def WordNumbersUptoSaid : Prop := wordNumbersUptoRow.holds Try.pinned (OpenSpec.upto wordNumbersSpec)

/-- 'canticlelaw07.WordPlain', WHERE WHAT IT READS IS OF BULK AT MOST 1048576: true; the input reads as it did. -/
def wordPlainUptoRow : OpenClaim := { program := "ytgeefojgkbglnaa", sum := "9e280c7360028ec5b6ffe7bba6a21f697650ad0dc9f6c0bf844bf8bae200387a", func := "canticle/canticlelaw07.WordPlain", spec := "wordPlain", unfollowed := true, recurses := true, plainKeys := false, apart := false, narrowed := true }
def WordPlainUptoSaid : Prop := wordPlainUptoRow.holds Try.pinned (OpenSpec.upto wordPlainSpec)

/-- 'canticlelaw07.WordPlaces', WHERE WHAT IT READS IS OF BULK AT MOST 1048576: true; the input reads as it did. -/
def wordPlacesUptoRow : OpenClaim := { program := "ytgeefojgkbglnaa", sum := "9e280c7360028ec5b6ffe7bba6a21f697650ad0dc9f6c0bf844bf8bae200387a", func := "canticle/canticlelaw07.WordPlaces", spec := "wordPlaces", unfollowed := true, recurses := true, plainKeys := false, apart := false, narrowed := true }
def WordPlacesUptoSaid : Prop := wordPlacesUptoRow.holds Try.pinned (OpenSpec.upto wordPlacesSpec)

/-- 'canticlelaw07.WordAlone', WHERE WHAT IT READS IS OF BULK AT MOST 1048576: true; the input reads as it did. -/
def wordAloneUptoRow : OpenClaim := { program := "ytgeefojgkbglnaa", sum := "9e280c7360028ec5b6ffe7bba6a21f697650ad0dc9f6c0bf844bf8bae200387a", func := "canticle/canticlelaw07.WordAlone", spec := "wordAlone", unfollowed := true, recurses := true, plainKeys := false, apart := false, narrowed := true }
def WordAloneUptoSaid : Prop := wordAloneUptoRow.holds Try.pinned (OpenSpec.upto wordAloneSpec)

/-- 'canticlelaw07.WordLetters', WHERE WHAT IT READS IS OF BULK AT MOST 1048576: true; the input reads as it did. -/
def wordLettersUptoRow : OpenClaim := { program := "ytgeefojgkbglnaa", sum := "9e280c7360028ec5b6ffe7bba6a21f697650ad0dc9f6c0bf844bf8bae200387a", func := "canticle/canticlelaw07.WordLetters", spec := "wordLetters", unfollowed := true, recurses := true, plainKeys := false, apart := false, narrowed := true }
def WordLettersUptoSaid : Prop := wordLettersUptoRow.holds Try.pinned (OpenSpec.upto wordLettersSpec)

end Rows
end Go.Proofs.Ytgeefojgkbglnaa

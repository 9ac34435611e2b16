/-
  No cell of these rows narrows 'for every input' (looked for: loops, veiled, ifaces, maps, wideKeys, modest, calm, conditions, laid).
  DERIVED. THE GIVEN ROWS OF THIS SEAT. 4 by the template 'for every input the law returns true; each argument reads behind the call as it read before'; 0 by the template 'total and deterministic' (their statements: YtlamcpgnmeileaaTotals.lean).
  GIVEN WITH THE SEED: the statements are not yours to turn. If you find one false, say at which input.
  Laid BY PROGRAM, IN A SANDBOX (cutbox-rows.mjs): the forced cells as the released guide's own fill.sh prints them over the translation 7ff8dda10a8b2f0b… (all of the seat's roots in one cut). By AI agents, Wed Nov 11 2026. No macro, syntax, notation, axiom, sorry.
-/
import Derived.Test.YtlamcpgnmeileaaChecked
import GoSem.Claim
import GoSem.ClaimJoined
import GoSem.ClaimMapViews
import Derived.JoinedTies
import Derived.KernelRfl
namespace Go.Proofs.Ytlamcpgnmeileaa
/- THE CELL 'sum', in the pinned program and in every row, IS THE sha256 OF THE DUMP (.gsa) THAT YtlamcpgnmeileaaProg.lean LOADS. Nothing in Lean hashes anything: it is a label: what it is worth is what the hold of that sum in a sandbox is worth. -/
noncomputable def Try.pinned : Pinned := { name := "ytlamcpgnmeileaa", sum := "7ff8dda10a8b2f0b32c6873ef8c9b2b09e00fe6ff7135260c7f88c35568ce598", checked := Try.checked }
namespace Rows
def none {H : Type} : Left H := { results := [], args := [] }

/-- 'canticlelaw04.FoldFinds': WHATEVER THE INPUT: true; the input reads as it did. -/
def foldFindsSpec : ChangeSpec := { name := "foldFinds", fn := fun _ => fun
  | [d1, d2, d3] => { results := [.lit (.bool true)], args := [d1, d2, d3] }
  | _ => none }
def foldFindsRow : OpenClaim := { program := "ytlamcpgnmeileaa", sum := "7ff8dda10a8b2f0b32c6873ef8c9b2b09e00fe6ff7135260c7f88c35568ce598", func := "canticle/canticlelaw04.FoldFinds", spec := "foldFinds", unfollowed := true, recurses := true, plainKeys := false, apart := false }
def FoldFindsSaid : Prop := foldFindsRow.holds Try.pinned (OpenSpec.ofChange foldFindsSpec)

/-- ITS FALSE NEIGHBOUR: 'it returns false'. Refute it at one input. -/
def foldFindsWrong : ChangeSpec := { name := "foldFinds", fn := fun _ => fun
  | [d1, d2, d3] => { results := [.lit (.bool false)], args := [d1, d2, d3] }
  | _ => none }
def FoldFindsWrongFalsely : Prop := foldFindsRow.holds Try.pinned (OpenSpec.ofChange foldFindsWrong)

/-- 'canticlelaw04.FoldFound': WHATEVER THE INPUT: true; the input reads as it did. -/
def foldFoundSpec : ChangeSpec := { name := "foldFound", fn := fun _ => fun
  | [d1, d2, d3] => { results := [.lit (.bool true)], args := [d1, d2, d3] }
  | _ => none }
def foldFoundRow : OpenClaim := { program := "ytlamcpgnmeileaa", sum := "7ff8dda10a8b2f0b32c6873ef8c9b2b09e00fe6ff7135260c7f88c35568ce598", func := "canticle/canticlelaw04.FoldFound", spec := "foldFound", unfollowed := true, recurses := true, plainKeys := false, apart := false }
def FoldFoundSaid : Prop := foldFoundRow.holds Try.pinned (OpenSpec.ofChange foldFoundSpec)

/-- ITS FALSE NEIGHBOUR: 'it returns false'. Refute it at one input. -/
def foldFoundWrong : ChangeSpec := { name := "foldFound", fn := fun _ => fun
  | [d1, d2, d3] => { results := [.lit (.bool false)], args := [d1, d2, d3] }
  | _ => none }
def FoldFoundWrongFalsely : Prop := foldFoundRow.holds Try.pinned (OpenSpec.ofChange foldFoundWrong)

/-- 'canticlelaw07.WordLetters': WHATEVER THE INPUT: true; the input reads as it did. -/
def wordLettersSpec : ChangeSpec := { name := "wordLetters", fn := fun _ => fun
  | [d] => { results := [.lit (.bool true)], args := [d] }
  | _ => none }
def wordLettersRow : OpenClaim := { program := "ytlamcpgnmeileaa", sum := "7ff8dda10a8b2f0b32c6873ef8c9b2b09e00fe6ff7135260c7f88c35568ce598", func := "canticle/canticlelaw07.WordLetters", spec := "wordLetters", unfollowed := true, recurses := true, plainKeys := false, apart := false }
def WordLettersSaid : Prop := wordLettersRow.holds Try.pinned (OpenSpec.ofChange wordLettersSpec)

/-- ITS FALSE NEIGHBOUR: 'it returns false'. Refute it at one input. -/
def wordLettersWrong : ChangeSpec := { name := "wordLetters", fn := fun _ => fun
  | [d] => { results := [.lit (.bool false)], args := [d] }
  | _ => none }
def WordLettersWrongFalsely : Prop := wordLettersRow.holds Try.pinned (OpenSpec.ofChange wordLettersWrong)

/-- 'canticlelaw04.FoldStays': WHATEVER THE INPUT: true; the input reads as it did. -/
def foldStaysSpec : ChangeSpec := { name := "foldStays", fn := fun _ => fun
  | [d] => { results := [.lit (.bool true)], args := [d] }
  | _ => none }
def foldStaysRow : OpenClaim := { program := "ytlamcpgnmeileaa", sum := "7ff8dda10a8b2f0b32c6873ef8c9b2b09e00fe6ff7135260c7f88c35568ce598", func := "canticle/canticlelaw04.FoldStays", spec := "foldStays", inPlace := ["internal/abi.NoEscape"], unfollowed := true, recurses := true, plainKeys := false, apart := false }
def FoldStaysSaid : Prop := foldStaysRow.holds Try.pinned (OpenSpec.ofChange foldStaysSpec)

/-- ITS FALSE NEIGHBOUR: 'it returns false'. Refute it at one input. -/
def foldStaysWrong : ChangeSpec := { name := "foldStays", fn := fun _ => fun
  | [d] => { results := [.lit (.bool false)], args := [d] }
  | _ => none }
def FoldStaysWrongFalsely : Prop := foldStaysRow.holds Try.pinned (OpenSpec.ofChange foldStaysWrong)

/- THE SECOND FORM. 'bulk': how many values and letters a reading holds, each counted each time it is reached (what is shared counts as often as it is met; a slice's spare places count too). A statement '..UptoSaid' is the law's where the arguments, and the package variables that the reading takes, are together of bulk at most 1048576: NARROWER than '..Said'. Prove '..Said' where nothing that the law and all that it calls make is longer than what came in: it says more and counts as full. Else prove '..UptoSaid'. A law counts once. -/
mutual
def uptoBulk {H : Type} : DataW H → Nat
  | .lit (.string bytes) => bytes.length + 1
  | .lit _ => 1
  | .nil => 1
  | .ptr d => uptoBulk d + 1
  | .slice elems spare => uptoBulkAll elems + uptoBulkAll spare + 1
  | .agg parts => uptoBulkAll parts + 1
  | .iface _ d => uptoBulk d + 1
  | .map entries => uptoBulkEntries entries + 1
  | .held _ => 1
def uptoBulkAll {H : Type} : List (DataW H) → Nat
  | [] => 0
  | d :: r => uptoBulk d + uptoBulkAll r
def uptoBulkEntries {H : Type} : List (Lit × DataW H) → Nat
  | [] => 0
  | x :: r => uptoBulkEntry x + uptoBulkEntries r
def uptoBulkEntry {H : Type} : Lit × DataW H → Nat
  | (.string bytes, d) => bytes.length + uptoBulk d + 1
  | (_, d) => uptoBulk d + 1
 end
def uptoSmall : (H : Type) → List (DataW H) → Bool := fun _ ds => decide (uptoBulkAll ds ≤ 1048576)
def OpenSpec.upto (s : _root_.Go.ChangeSpec) : _root_.Go.OpenSpec := { _root_.Go.OpenSpec.ofChange s with cond := some uptoSmall }

/-- 'canticlelaw04.FoldFinds', WHERE WHAT IT READS IS OF BULK AT MOST 1048576: true; the input reads as it did. -/
def foldFindsUptoRow : OpenClaim := { program := "ytlamcpgnmeileaa", sum := "7ff8dda10a8b2f0b32c6873ef8c9b2b09e00fe6ff7135260c7f88c35568ce598", func := "canticle/canticlelaw04.FoldFinds", spec := "foldFinds", unfollowed := true, recurses := true, plainKeys := false, apart := false, narrowed := true }
def FoldFindsUptoSaid : Prop := foldFindsUptoRow.holds Try.pinned (OpenSpec.upto foldFindsSpec)

/-- 'canticlelaw04.FoldFound', WHERE WHAT IT READS IS OF BULK AT MOST 1048576: true; the input reads as it did. -/
def foldFoundUptoRow : OpenClaim := { program := "ytlamcpgnmeileaa", sum := "7ff8dda10a8b2f0b32c6873ef8c9b2b09e00fe6ff7135260c7f88c35568ce598", func := "canticle/canticlelaw04.FoldFound", spec := "foldFound", unfollowed := true, recurses := true, plainKeys := false, apart := false, narrowed := true }
def FoldFoundUptoSaid : Prop := foldFoundUptoRow.holds Try.pinned (OpenSpec.upto foldFoundSpec)

/-- 'canticlelaw07.WordLetters', WHERE WHAT IT READS IS OF BULK AT MOST 1048576: true; the input reads as it did. -/
def wordLettersUptoRow : OpenClaim := { program := "ytlamcpgnmeileaa", sum := "7ff8dda10a8b2f0b32c6873ef8c9b2b09e00fe6ff7135260c7f88c35568ce598", func := "canticle/canticlelaw07.WordLetters", spec := "wordLetters", unfollowed := true, recurses := true, plainKeys := false, apart := false, narrowed := true }
def WordLettersUptoSaid : Prop := wordLettersUptoRow.holds Try.pinned (OpenSpec.upto wordLettersSpec)

/-- 'canticlelaw04.FoldStays', WHERE WHAT IT READS IS OF BULK AT MOST 1048576: true; the input reads as it did. -/
def foldStaysUptoRow : OpenClaim := { program := "ytlamcpgnmeileaa", sum := "7ff8dda10a8b2f0b32c6873ef8c9b2b09e00fe6ff7135260c7f88c35568ce598", func := "canticle/canticlelaw04.FoldStays", spec := "foldStays", inPlace := ["internal/abi.NoEscape"], unfollowed := true, recurses := true, plainKeys := false, apart := false, narrowed := true }
def FoldStaysUptoSaid : Prop := foldStaysUptoRow.holds Try.pinned (OpenSpec.upto foldStaysSpec)

end Rows
end Go.Proofs.Ytlamcpgnmeileaa

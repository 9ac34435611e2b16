/-
  No cell of these rows narrows 'for every input' (looked for: loops, veiled, ifaces, maps, wideKeys, modest, calm, conditions, laid).
  DERIVED. THE GIVEN ROWS OF THIS SEAT. 9 by the template 'for every input the law returns true; each argument reads behind the call as it read before'; 0 by the template 'total and deterministic' (their statements: YthjkafeklflgbaaTotals.lean).
  GIVEN WITH THE SEED: the statements are not yours to turn. If you find one false, say at which input.
  Laid BY PROGRAM, IN A SANDBOX (cutbox-rows.mjs): the forced cells as the released guide's own fill.sh prints them over the translation 796e3f38cd8ab501… (all of the seat's roots in one cut). By AI agents, Wed Nov 11 2026. No macro, syntax, notation, axiom, sorry.
-/
import Derived.Test.YthjkafeklflgbaaChecked
import GoSem.Claim
import GoSem.ClaimJoined
import GoSem.ClaimMapViews
import Derived.JoinedTies
import Derived.KernelRfl
namespace Go.Proofs.Ythjkafeklflgbaa
/- THE CELL 'sum', in the pinned program and in every row, IS THE sha256 OF THE DUMP (.gsa) THAT YthjkafeklflgbaaProg.lean LOADS. Nothing in Lean hashes anything: it is a label: what it is worth is what the hold of that sum in a sandbox is worth. -/
noncomputable def Try.pinned : Pinned := { name := "ythjkafeklflgbaa", sum := "796e3f38cd8ab50146c5b54159a751842060de78e7118e0ba0dbd3f5a7581467", checked := Try.checked }
namespace Rows
def none {H : Type} : Left H := { results := [], args := [] }

/-- 'canticlelaw04.FoldSames': WHATEVER THE INPUT: true; the input reads as it did. -/
def foldSamesSpec : ChangeSpec := { name := "foldSames", fn := fun _ => fun
  | [d1, d2] => { results := [.lit (.bool true)], args := [d1, d2] }
  | _ => none }
def foldSamesRow : OpenClaim := { program := "ythjkafeklflgbaa", sum := "796e3f38cd8ab50146c5b54159a751842060de78e7118e0ba0dbd3f5a7581467", func := "canticle/canticlelaw04.FoldSames", spec := "foldSames", unfollowed := true, recurses := true, plainKeys := false, apart := false }
def FoldSamesSaid : Prop := foldSamesRow.holds Try.pinned (OpenSpec.ofChange foldSamesSpec)

/-- ITS FALSE NEIGHBOUR: 'it returns false'. Refute it at one input. -/
def foldSamesWrong : ChangeSpec := { name := "foldSames", fn := fun _ => fun
  | [d1, d2] => { results := [.lit (.bool false)], args := [d1, d2] }
  | _ => none }
def FoldSamesWrongFalsely : Prop := foldSamesRow.holds Try.pinned (OpenSpec.ofChange foldSamesWrong)

/-- 'canticlelaw04.FoldAlike': WHATEVER THE INPUT: true; the input reads as it did. -/
def foldAlikeSpec : ChangeSpec := { name := "foldAlike", fn := fun _ => fun
  | [d1, d2, d3] => { results := [.lit (.bool true)], args := [d1, d2, d3] }
  | _ => none }
def foldAlikeRow : OpenClaim := { program := "ythjkafeklflgbaa", sum := "796e3f38cd8ab50146c5b54159a751842060de78e7118e0ba0dbd3f5a7581467", func := "canticle/canticlelaw04.FoldAlike", spec := "foldAlike", unfollowed := true, recurses := true, plainKeys := false, apart := false }
def FoldAlikeSaid : Prop := foldAlikeRow.holds Try.pinned (OpenSpec.ofChange foldAlikeSpec)

/-- ITS FALSE NEIGHBOUR: 'it returns false'. Refute it at one input. -/
def foldAlikeWrong : ChangeSpec := { name := "foldAlike", fn := fun _ => fun
  | [d1, d2, d3] => { results := [.lit (.bool false)], args := [d1, d2, d3] }
  | _ => none }
def FoldAlikeWrongFalsely : Prop := foldAlikeRow.holds Try.pinned (OpenSpec.ofChange foldAlikeWrong)

/-- 'canticlelaw04.FoldTraces': WHATEVER THE INPUT: true; the input reads as it did. -/
def foldTracesSpec : ChangeSpec := { name := "foldTraces", fn := fun _ => fun
  | [d1, d2] => { results := [.lit (.bool true)], args := [d1, d2] }
  | _ => none }
def foldTracesRow : OpenClaim := { program := "ythjkafeklflgbaa", sum := "796e3f38cd8ab50146c5b54159a751842060de78e7118e0ba0dbd3f5a7581467", func := "canticle/canticlelaw04.FoldTraces", spec := "foldTraces", unfollowed := true, recurses := true, plainKeys := false, apart := false }
def FoldTracesSaid : Prop := foldTracesRow.holds Try.pinned (OpenSpec.ofChange foldTracesSpec)

/-- ITS FALSE NEIGHBOUR: 'it returns false'. Refute it at one input. -/
def foldTracesWrong : ChangeSpec := { name := "foldTraces", fn := fun _ => fun
  | [d1, d2] => { results := [.lit (.bool false)], args := [d1, d2] }
  | _ => none }
def FoldTracesWrongFalsely : Prop := foldTracesRow.holds Try.pinned (OpenSpec.ofChange foldTracesWrong)

/-- 'canticlelaw04.FoldTexts': WHATEVER THE INPUT: true; the input reads as it did. -/
def foldTextsSpec : ChangeSpec := { name := "foldTexts", fn := fun _ => fun
  | [d] => { results := [.lit (.bool true)], args := [d] }
  | _ => none }
def foldTextsRow : OpenClaim := { program := "ythjkafeklflgbaa", sum := "796e3f38cd8ab50146c5b54159a751842060de78e7118e0ba0dbd3f5a7581467", func := "canticle/canticlelaw04.FoldTexts", spec := "foldTexts", unfollowed := true, recurses := true, plainKeys := false, apart := false }
def FoldTextsSaid : Prop := foldTextsRow.holds Try.pinned (OpenSpec.ofChange foldTextsSpec)

/-- ITS FALSE NEIGHBOUR: 'it returns false'. Refute it at one input. -/
def foldTextsWrong : ChangeSpec := { name := "foldTexts", fn := fun _ => fun
  | [d] => { results := [.lit (.bool false)], args := [d] }
  | _ => none }
def FoldTextsWrongFalsely : Prop := foldTextsRow.holds Try.pinned (OpenSpec.ofChange foldTextsWrong)

/-- 'canticlelaw04.FoldKeeps': WHATEVER THE INPUT: true; the input reads as it did. -/
def foldKeepsSpec : ChangeSpec := { name := "foldKeeps", fn := fun _ => fun
  | [d] => { results := [.lit (.bool true)], args := [d] }
  | _ => none }
def foldKeepsRow : OpenClaim := { program := "ythjkafeklflgbaa", sum := "796e3f38cd8ab50146c5b54159a751842060de78e7118e0ba0dbd3f5a7581467", func := "canticle/canticlelaw04.FoldKeeps", spec := "foldKeeps", unfollowed := true, recurses := true, plainKeys := false, apart := false }
def FoldKeepsSaid : Prop := foldKeepsRow.holds Try.pinned (OpenSpec.ofChange foldKeepsSpec)

/-- ITS FALSE NEIGHBOUR: 'it returns false'. Refute it at one input. -/
def foldKeepsWrong : ChangeSpec := { name := "foldKeeps", fn := fun _ => fun
  | [d] => { results := [.lit (.bool false)], args := [d] }
  | _ => none }
def FoldKeepsWrongFalsely : Prop := foldKeepsRow.holds Try.pinned (OpenSpec.ofChange foldKeepsWrong)

/-- 'canticlelaw04.FoldRunes': WHATEVER THE INPUT: true; the input reads as it did. -/
def foldRunesSpec : ChangeSpec := { name := "foldRunes", fn := fun _ => fun
  | [d1, d2] => { results := [.lit (.bool true)], args := [d1, d2] }
  | _ => none }
def foldRunesRow : OpenClaim := { program := "ythjkafeklflgbaa", sum := "796e3f38cd8ab50146c5b54159a751842060de78e7118e0ba0dbd3f5a7581467", func := "canticle/canticlelaw04.FoldRunes", spec := "foldRunes", unfollowed := true, recurses := true, plainKeys := false, apart := false }
def FoldRunesSaid : Prop := foldRunesRow.holds Try.pinned (OpenSpec.ofChange foldRunesSpec)

/-- ITS FALSE NEIGHBOUR: 'it returns false'. Refute it at one input. -/
def foldRunesWrong : ChangeSpec := { name := "foldRunes", fn := fun _ => fun
  | [d1, d2] => { results := [.lit (.bool false)], args := [d1, d2] }
  | _ => none }
def FoldRunesWrongFalsely : Prop := foldRunesRow.holds Try.pinned (OpenSpec.ofChange foldRunesWrong)

/-- 'canticlelaw04.FoldWay': WHATEVER THE INPUT: true; the input reads as it did. -/
def foldWaySpec : ChangeSpec := { name := "foldWay", fn := fun _ => fun
  | [d] => { results := [.lit (.bool true)], args := [d] }
  | _ => none }
def foldWayRow : OpenClaim := { program := "ythjkafeklflgbaa", sum := "796e3f38cd8ab50146c5b54159a751842060de78e7118e0ba0dbd3f5a7581467", func := "canticle/canticlelaw04.FoldWay", spec := "foldWay", unfollowed := true, recurses := true, plainKeys := false, apart := false }
def FoldWaySaid : Prop := foldWayRow.holds Try.pinned (OpenSpec.ofChange foldWaySpec)

/-- ITS FALSE NEIGHBOUR: 'it returns false'. Refute it at one input. -/
def foldWayWrong : ChangeSpec := { name := "foldWay", fn := fun _ => fun
  | [d] => { results := [.lit (.bool false)], args := [d] }
  | _ => none }
def FoldWayWrongFalsely : Prop := foldWayRow.holds Try.pinned (OpenSpec.ofChange foldWayWrong)

/-- 'canticlelaw04.FoldFound': WHATEVER THE INPUT: true; the input reads as it did. -/
def foldFoundSpec : ChangeSpec := { name := "foldFound", fn := fun _ => fun
  | [d1, d2, d3] => { results := [.lit (.bool true)], args := [d1, d2, d3] }
  | _ => none }
def foldFoundRow : OpenClaim := { program := "ythjkafeklflgbaa", sum := "796e3f38cd8ab50146c5b54159a751842060de78e7118e0ba0dbd3f5a7581467", func := "canticle/canticlelaw04.FoldFound", spec := "foldFound", unfollowed := true, recurses := true, plainKeys := false, apart := false }
def FoldFoundSaid : Prop := foldFoundRow.holds Try.pinned (OpenSpec.ofChange foldFoundSpec)

/-- ITS FALSE NEIGHBOUR: 'it returns false'. Refute it at one input. -/
def foldFoundWrong : ChangeSpec := { name := "foldFound", fn := fun _ => fun
  | [d1, d2, d3] => { results := [.lit (.bool false)], args := [d1, d2, d3] }
  | _ => none }
def FoldFoundWrongFalsely : Prop := foldFoundRow.holds Try.pinned (OpenSpec.ofChange foldFoundWrong)

/-- 'canticlelaw04.FoldLaid': WHATEVER THE INPUT: true; the input reads as it did. -/
def foldLaidSpec : ChangeSpec := { name := "foldLaid", fn := fun _ => fun
  | [d1, d2] => { results := [.lit (.bool true)], args := [d1, d2] }
  | _ => none }
def foldLaidRow : OpenClaim := { program := "ythjkafeklflgbaa", sum := "796e3f38cd8ab50146c5b54159a751842060de78e7118e0ba0dbd3f5a7581467", func := "canticle/canticlelaw04.FoldLaid", spec := "foldLaid", unfollowed := true, recurses := true, plainKeys := false, apart := false }
def FoldLaidSaid : Prop := foldLaidRow.holds Try.pinned (OpenSpec.ofChange foldLaidSpec)

/-- ITS FALSE NEIGHBOUR: 'it returns false'. Refute it at one input. -/
def foldLaidWrong : ChangeSpec := { name := "foldLaid", fn := fun _ => fun
  | [d1, d2] => { results := [.lit (.bool false)], args := [d1, d2] }
  | _ => none }
def FoldLaidWrongFalsely : Prop := foldLaidRow.holds Try.pinned (OpenSpec.ofChange foldLaidWrong)

/- THE SECOND FORM. 'bulk': how many values and letters a reading holds, each counted each time it is reached (what is shared counts as often as it is met; a slice's spare places count too). A statement '..UptoSaid' is the law's where the arguments, and the package variables that the reading takes, are together of bulk at most 1048576: NARROWER than '..Said'. Prove '..Said' where nothing that the law and all that it calls make is longer than what came in: it says more and counts as full. Else prove '..UptoSaid'. A law counts once. -/
mutual
def uptoBulk {H : Type} : DataW H → Nat
  | .lit (.string bytes) => bytes.length + 1
  | .lit _ => 1
  | .nil => 1
  | .ptr d => uptoBulk d + 1
  | .slice elems spare => uptoBulkAll elems + uptoBulkAll spare + 1
  | .agg parts => uptoBulkAll parts + 1
  | .iface _ d => uptoBulk d + 1
  | .map entries => uptoBulkEntries entries + 1
  | .held _ => 1
def uptoBulkAll {H : Type} : List (DataW H) → Nat
  | [] => 0
  | d :: r => uptoBulk d + uptoBulkAll r
def uptoBulkEntries {H : Type} : List (Lit × DataW H) → Nat
  | [] => 0
  | x :: r => uptoBulkEntry x + uptoBulkEntries r
def uptoBulkEntry {H : Type} : Lit × DataW H → Nat
  | (.string bytes, d) => bytes.length + uptoBulk d + 1
  | (_, d) => uptoBulk d + 1
 end
def uptoSmall : (H : Type) → List (DataW H) → Bool := fun _ ds => decide (uptoBulkAll ds ≤ 1048576)
def OpenSpec.upto (s : _root_.Go.ChangeSpec) : _root_.Go.OpenSpec := { _root_.Go.OpenSpec.ofChange s with cond := some uptoSmall }

/-- 'canticlelaw04.FoldSames', WHERE WHAT IT READS IS OF BULK AT MOST 1048576: true; the input reads as it did. -/
def foldSamesUptoRow : OpenClaim := { program := "ythjkafeklflgbaa", sum := "796e3f38cd8ab50146c5b54159a751842060de78e7118e0ba0dbd3f5a7581467", func := "canticle/canticlelaw04.FoldSames", spec := "foldSames", unfollowed := true, recurses := true, plainKeys := false, apart := false, narrowed := true }
def FoldSamesUptoSaid : Prop := foldSamesUptoRow.holds Try.pinned (OpenSpec.upto foldSamesSpec)

/-- 'canticlelaw04.FoldAlike', WHERE WHAT IT READS IS OF BULK AT MOST 1048576: true; the input reads as it did. -/
def foldAlikeUptoRow : OpenClaim := { program := "ythjkafeklflgbaa", sum := "796e3f38cd8ab50146c5b54159a751842060de78e7118e0ba0dbd3f5a7581467", func := "canticle/canticlelaw04.FoldAlike", spec := "foldAlike", unfollowed := true, recurses := true, plainKeys := false, apart := false, narrowed := true }
def FoldAlikeUptoSaid : Prop := foldAlikeUptoRow.holds Try.pinned (OpenSpec.upto foldAlikeSpec)

/-- 'canticlelaw04.FoldTraces', WHERE WHAT IT READS IS OF BULK AT MOST 1048576: true; the input reads as it did. -/
def foldTracesUptoRow : OpenClaim := { program := "ythjkafeklflgbaa", sum := "796e3f38cd8ab50146c5b54159a751842060de78e7118e0ba0dbd3f5a7581467", func := "canticle/canticlelaw04.FoldTraces", spec := "foldTraces", unfollowed := true, recurses := true, plainKeys := false, apart := false, narrowed := true }
def FoldTracesUptoSaid : Prop := foldTracesUptoRow.holds Try.pinned (OpenSpec.upto foldTracesSpec)

/-- 'canticlelaw04.FoldTexts', WHERE WHAT IT READS IS OF BULK AT MOST 1048576: true; the input reads as it did. -/
def foldTextsUptoRow : OpenClaim := { program := "ythjkafeklflgbaa", sum := "796e3f38cd8ab50146c5b54159a751842060de78e7118e0ba0dbd3f5a7581467", func := "canticle/canticlelaw04.FoldTexts", spec := "foldTexts", unfollowed := true, recurses := true, plainKeys := false, apart := false, narrowed := true }
def FoldTextsUptoSaid : Prop := foldTextsUptoRow.holds Try.pinned (OpenSpec.upto foldTextsSpec)

/-- 'canticlelaw04.FoldKeeps', WHERE WHAT IT READS IS OF BULK AT MOST 1048576: true; the input reads as it did. -/
def foldKeepsUptoRow : OpenClaim := { program := "ythjkafeklflgbaa", sum := "796e3f38cd8ab50146c5b54159a751842060de78e7118e0ba0dbd3f5a7581467", func := "canticle/canticlelaw04.FoldKeeps", spec := "foldKeeps", unfollowed := true, recurses := true, plainKeys := false, apart := false, narrowed := true }
def FoldKeepsUptoSaid : Prop := foldKeepsUptoRow.holds Try.pinned (OpenSpec.upto foldKeepsSpec)

/-- 'canticlelaw04.FoldRunes', WHERE WHAT IT READS IS OF BULK AT MOST 1048576: true; the input reads as it did. -/
def foldRunesUptoRow : OpenClaim := { program := "ythjkafeklflgbaa", sum := "796e3f38cd8ab50146c5b54159a751842060de78e7118e0ba0dbd3f5a7581467", func := "canticle/canticlelaw04.FoldRunes", spec := "foldRunes", unfollowed := true, recurses := true, plainKeys := false, apart := false, narrowed := true }
def FoldRunesUptoSaid : Prop := foldRunesUptoRow.holds Try.pinned (OpenSpec.upto foldRunesSpec)

/-- 'canticlelaw04.FoldWay', WHERE WHAT IT READS IS OF BULK AT MOST 1048576: true; the input reads as it did. -/
def foldWayUptoRow : OpenClaim := { program := "ythjkafeklflgbaa", sum := "796e3f38cd8ab50146c5b54159a751842060de78e7118e0ba0dbd3f5a7581467", func := "canticle/canticlelaw04.FoldWay", spec := "foldWay", unfollowed := true, recurses := true, plainKeys := false, apart := false, narrowed := true }
def FoldWayUptoSaid : Prop := foldWayUptoRow.holds Try.pinned (OpenSpec.upto foldWaySpec)

/-- 'canticlelaw04.FoldFound', WHERE WHAT IT READS IS OF BULK AT MOST 1048576: true; the input reads as it did. -/
def foldFoundUptoRow : OpenClaim := { program := "ythjkafeklflgbaa", sum := "796e3f38cd8ab50146c5b54159a751842060de78e7118e0ba0dbd3f5a7581467", func := "canticle/canticlelaw04.FoldFound", spec := "foldFound", unfollowed := true, recurses := true, plainKeys := false, apart := false, narrowed := true }
def FoldFoundUptoSaid : Prop := foldFoundUptoRow.holds Try.pinned (OpenSpec.upto foldFoundSpec)

/-- 'canticlelaw04.FoldLaid', WHERE WHAT IT READS IS OF BULK AT MOST 1048576: true; the input reads as it did. -/
def foldLaidUptoRow : OpenClaim := { program := "ythjkafeklflgbaa", sum := "796e3f38cd8ab50146c5b54159a751842060de78e7118e0ba0dbd3f5a7581467", func := "canticle/canticlelaw04.FoldLaid", spec := "foldLaid", unfollowed := true, recurses := true, plainKeys := false, apart := false, narrowed := true }
def FoldLaidUptoSaid : Prop := foldLaidUptoRow.holds Try.pinned (OpenSpec.upto foldLaidSpec)

end Rows
end Go.Proofs.Ythjkafeklflgbaa

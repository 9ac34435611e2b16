/-
  A world that lays the two tables of unicode/utf8, for the witness. Nothing is assumed.
-/
import Derived.Test.YtncjnoakkghmmaaGreatDoorCards
import Derived.Test.YtncjnoakkghmmaaGreatDoorTie
import Derived.ProofKit
import Derived.Deep.DeepHandedRow
namespace Go.Proofs.YtncjnoakkghmmaaGreatDoor
open Go.ChangeShapes Go.WideShapes Go.ChangeAt Go.RowKit
set_option linter.unusedVariables false
theorem gFirst : Tryz.prog.globalNamed "unicode/utf8.first" = some 1 := by kernel_rfl
theorem gRanges : Tryz.prog.globalNamed "unicode/utf8.acceptRanges" = some 2 := by kernel_rfl
def rangeZ : List Nat := [128, 191, 160, 191, 128, 159, 144, 191, 128, 143] ++ List.replicate 22 0
def layCells (l : List Nat) : Obj → Obj
  | .cells _ t frozen => .cells ((l.map fun n : Nat => Value.int .u8 (n : Int)).toArray) t frozen
  | o => o
noncomputable def laidWorld (os : Os) : World :=
  { World.holding Tryz.prog os ⟨#[], #[], []⟩ with heap := ((World.holding Tryz.prog os ⟨#[], #[], []⟩).heap.modify 1 (layCells Pinned.utf8FirstZ)).modify 2 (layCells rangeZ) }
end Go.Proofs.YtncjnoakkghmmaaGreatDoor

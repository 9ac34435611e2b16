/-
  A world that lays the two tables of math/bits, for the witness. Nothing is assumed.
-/
import Derived.Test.YtdnalnmahlakkaaGreatDoorCards
import Derived.Test.YtdnalnmahlakkaaGreatDoorTie
import Derived.Lib.TrailingZeros
import Derived.ProofKit
import Derived.Deep.DeepHandedRow
namespace Go.Proofs.YtdnalnmahlakkaaGreatDoor
open Go.ChangeShapes Go.WideShapes Go.ChangeAt Go.RowKit
set_option linter.unusedVariables false
theorem g32 : Tryz.prog.globalNamed "math/bits.deBruijn32tab" = some 0 := by kernel_rfl
def layCells (l : List Nat) : Obj → Obj
  | .cells _ t frozen => .cells ((l.map fun n : Nat => Value.int .u8 (n : Int)).toArray) t frozen
  | o => o
noncomputable def laidWorld (os : Os) : World :=
  { World.holding Tryz.prog os ⟨#[], #[], []⟩ with heap := ((World.holding Tryz.prog os ⟨#[], #[], []⟩).heap.modify 0 (layCells Lib.deBruijn32tab)).modify 1 (layCells Lib.deBruijn64tab) }
end Go.Proofs.YtdnalnmahlakkaaGreatDoor

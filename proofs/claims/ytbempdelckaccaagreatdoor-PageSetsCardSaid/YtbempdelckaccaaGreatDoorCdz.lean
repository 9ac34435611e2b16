/-
  A world that lays the tables of the great seat of pages, for the witness. Nothing is assumed.
-/
import Derived.Test.YtbempdelckaccaaGreatDoorCards
import Derived.Test.YtbempdelckaccaaGreatDoorTie
import Derived.ProofKit
import Derived.Deep.DeepHandedRow
namespace Go.Proofs.YtbempdelckaccaaGreatDoor
open Go.ChangeShapes Go.WideShapes Go.ChangeAt Go.RowKit
set_option linter.unusedVariables false
theorem gFirst : Tryz.prog.globalNamed "unicode/utf8.first" = some 2 := by kernel_rfl
theorem gRanges : Tryz.prog.globalNamed "unicode/utf8.acceptRanges" = some 3 := by kernel_rfl
def rangeZ : List Nat := [128, 191, 160, 191, 128, 159, 144, 191, 128, 143] ++ List.replicate 22 0
def powZ : List Nat := (List.range 20).map (fun k => 10 ^ k)
def br32 : List Nat := [0, 1, 28, 2, 29, 14, 24, 3, 30, 22, 20, 15, 25, 17, 4, 8, 31, 27, 13, 23, 21, 19, 16, 7, 26, 12, 18, 6, 11, 5, 10, 9]
def br64 : List Nat := [0, 1, 56, 2, 57, 49, 28, 3, 61, 58, 42, 50, 38, 29, 17, 4, 62, 47, 59, 36, 45, 43, 51, 22, 53, 39, 33, 30, 24, 18, 12, 5, 63, 55, 48, 27, 60, 41, 37, 16, 46, 35, 44, 21, 52, 32, 23, 11, 54, 26, 40, 15, 34, 20, 31, 10, 25, 14, 19, 9, 13, 8, 7, 6]
def layCells (k : IntKind) (l : List Nat) : Obj → Obj
  | .cells _ t frozen => .cells ((l.map fun n : Nat => Value.int k (n : Int)).toArray) t frozen
  | o => o
noncomputable def laidWorld (os : Os) : World :=
  { World.holding Tryz.prog os ⟨#[], #[], []⟩ with heap := (((((World.holding Tryz.prog os ⟨#[], #[], []⟩).heap.modify 2 (layCells .u8 Pinned.utf8FirstZ)).modify 3 (layCells .u8 rangeZ)).modify 1 (layCells .u64 powZ)).modify 4 (layCells .u8 br32)).modify 5 (layCells .u8 br64) }
end Go.Proofs.YtbempdelckaccaaGreatDoor

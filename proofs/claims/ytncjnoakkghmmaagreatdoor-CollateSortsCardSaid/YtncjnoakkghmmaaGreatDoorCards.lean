/-
  DERIVED. GIVEN WITH THE SEED: THE CARDS: each row of YtncjnoakkghmmaaGreatDoorRows.lean that lists a variable, with what it lists TIED to the program's text (the seventh form; the later family's looks); each row that meets fmt, with fmt's text TOLD by the authors' own Lean function (tested against real Go, not proved from fmt's source: count such statements apart). THE CARD IS WHAT COUNTS. Prove the row's statement (the work); the ties are given (YtncjnoakkghmmaaGreatDoorTie.lean); close each card by the builder's one call (the guide's Derived/Test/ToyasCard.lean, 'card_holds'). Laid BY PROGRAM, IN A SANDBOX (cutbox-door.mjs). By AI agents, Wed Nov 11 2026. No macro, syntax, notation, axiom, sorry.
-/
import Derived.Test.YtncjnoakkghmmaaGreatDoorRows
import GoSem.ClaimSeven
namespace Go.Proofs.YtncjnoakkghmmaaGreatDoor
namespace Rows

/-- THE TIED CARD OF 'canticlelaw22.CollateSorts'. -/
def collateSortsCard : Claim7 := { stood := { row := collateSortsRow, standIns := [], harness := (true, "5f50da4257d8faefd5580ae4482e90a9f1eca99a12b2cf4131822b9d9b5f3738"), looks := false }, kinds := [], alts := [], laidByText := true, laidKinds := [.data, .pinned], laidTests := true, laidLooks := .later }
def CollateSortsCardSaid : Prop := Claim7.holds Tryz.pinned (.plain (OpenSpec.ofChange collateSortsSpec)) collateSortsCard

/-- THE SECOND FORM's CARD OF 'canticlelaw22.CollateSorts'. -/
def collateSortsUptoCard : Claim7 := { stood := { row := collateSortsUptoRow, standIns := [], harness := (true, "5f50da4257d8faefd5580ae4482e90a9f1eca99a12b2cf4131822b9d9b5f3738"), looks := false }, kinds := [], alts := [], laidByText := true, laidKinds := [.data, .pinned], laidTests := true, laidLooks := .later }
def CollateSortsUptoCardSaid : Prop := Claim7.holds Tryz.pinned (.plain (OpenSpec.upto collateSortsSpec)) collateSortsUptoCard
end Rows
end Go.Proofs.YtncjnoakkghmmaaGreatDoor

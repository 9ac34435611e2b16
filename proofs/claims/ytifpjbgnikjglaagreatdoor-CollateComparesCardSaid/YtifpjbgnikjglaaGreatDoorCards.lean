/-
  DERIVED. GIVEN WITH THE SEED: THE CARDS: each row of YtifpjbgnikjglaaGreatDoorRows.lean that lists a variable, with what it lists TIED to the program's text (the seventh form; the later family's looks); each row that meets fmt, with fmt's text TOLD by the authors' own Lean function (tested against real Go, not proved from fmt's source: count such statements apart). THE CARD IS WHAT COUNTS. Prove the row's statement (the work); the ties are given (YtifpjbgnikjglaaGreatDoorTie.lean); close each card by the builder's one call (the guide's Derived/Test/ToyasCard.lean, 'card_holds'). Laid BY PROGRAM, IN A SANDBOX (cutbox-door.mjs). By AI agents, Wed Nov 11 2026. No macro, syntax, notation, axiom, sorry.
-/
import Derived.Test.YtifpjbgnikjglaaGreatDoorRows
import GoSem.ClaimSeven
namespace Go.Proofs.YtifpjbgnikjglaaGreatDoor
namespace Rows

/-- THE TIED CARD OF 'canticlelaw22.CollateReads'. -/
def collateReadsCard : Claim7 := { stood := { row := collateReadsRow, standIns := [], harness := (true, "afcca80fb1717c97e34dfdf8fd23f2cf4759a733c600207b8054f61ae9bed86d"), looks := false }, kinds := [], alts := [], laidByText := true, laidKinds := [.data, .pinned], laidTests := true, laidLooks := .later }
def CollateReadsCardSaid : Prop := Claim7.holds Tryz.pinned (.plain (OpenSpec.ofChange collateReadsSpec)) collateReadsCard

/-- THE TIED CARD OF 'canticlelaw22.CollateCompares'. -/
def collateComparesCard : Claim7 := { stood := { row := collateComparesRow, standIns := [], harness := (true, "afcca80fb1717c97e34dfdf8fd23f2cf4759a733c600207b8054f61ae9bed86d"), looks := false }, kinds := [], alts := [], laidByText := true, laidKinds := [.data, .pinned], laidTests := true, laidLooks := .later }
def CollateComparesCardSaid : Prop := Claim7.holds Tryz.pinned (.plain (OpenSpec.ofChange collateComparesSpec)) collateComparesCard

/-- THE TIED CARD OF 'canticlelaw22.CollateSorts'. -/
def collateSortsCard : Claim7 := { stood := { row := collateSortsRow, standIns := [], harness := (true, "afcca80fb1717c97e34dfdf8fd23f2cf4759a733c600207b8054f61ae9bed86d"), looks := false }, kinds := [], alts := [], laidByText := true, laidKinds := [.data, .pinned], laidTests := true, laidLooks := .later }
def CollateSortsCardSaid : Prop := Claim7.holds Tryz.pinned (.plain (OpenSpec.ofChange collateSortsSpec)) collateSortsCard

/-- THE TIED CARD OF 'canticlelaw22.CollateHeadings'. -/
def collateHeadingsCard : Claim7 := { stood := { row := collateHeadingsRow, standIns := [], harness := (true, "afcca80fb1717c97e34dfdf8fd23f2cf4759a733c600207b8054f61ae9bed86d"), looks := false }, kinds := [], alts := [], laidByText := true, laidKinds := [.data, .pinned], laidTests := true, laidLooks := .later }
def CollateHeadingsCardSaid : Prop := Claim7.holds Tryz.pinned (.plain (OpenSpec.ofChange collateHeadingsSpec)) collateHeadingsCard

/-- THE SECOND FORM's CARD OF 'canticlelaw22.CollateReads'. -/
def collateReadsUptoCard : Claim7 := { stood := { row := collateReadsUptoRow, standIns := [], harness := (true, "afcca80fb1717c97e34dfdf8fd23f2cf4759a733c600207b8054f61ae9bed86d"), looks := false }, kinds := [], alts := [], laidByText := true, laidKinds := [.data, .pinned], laidTests := true, laidLooks := .later }
def CollateReadsUptoCardSaid : Prop := Claim7.holds Tryz.pinned (.plain (OpenSpec.upto collateReadsSpec)) collateReadsUptoCard

/-- THE SECOND FORM's CARD OF 'canticlelaw22.CollateCompares'. -/
def collateComparesUptoCard : Claim7 := { stood := { row := collateComparesUptoRow, standIns := [], harness := (true, "afcca80fb1717c97e34dfdf8fd23f2cf4759a733c600207b8054f61ae9bed86d"), looks := false }, kinds := [], alts := [], laidByText := true, laidKinds := [.data, .pinned], laidTests := true, laidLooks := .later }
def CollateComparesUptoCardSaid : Prop := Claim7.holds Tryz.pinned (.plain (OpenSpec.upto collateComparesSpec)) collateComparesUptoCard

/-- THE SECOND FORM's CARD OF 'canticlelaw22.CollateSorts'. -/
def collateSortsUptoCard : Claim7 := { stood := { row := collateSortsUptoRow, standIns := [], harness := (true, "afcca80fb1717c97e34dfdf8fd23f2cf4759a733c600207b8054f61ae9bed86d"), looks := false }, kinds := [], alts := [], laidByText := true, laidKinds := [.data, .pinned], laidTests := true, laidLooks := .later }
def CollateSortsUptoCardSaid : Prop := Claim7.holds Tryz.pinned (.plain (OpenSpec.upto collateSortsSpec)) collateSortsUptoCard

/-- THE SECOND FORM's CARD OF 'canticlelaw22.CollateHeadings'. -/
def collateHeadingsUptoCard : Claim7 := { stood := { row := collateHeadingsUptoRow, standIns := [], harness := (true, "afcca80fb1717c97e34dfdf8fd23f2cf4759a733c600207b8054f61ae9bed86d"), looks := false }, kinds := [], alts := [], laidByText := true, laidKinds := [.data, .pinned], laidTests := true, laidLooks := .later }
def CollateHeadingsUptoCardSaid : Prop := Claim7.holds Tryz.pinned (.plain (OpenSpec.upto collateHeadingsSpec)) collateHeadingsUptoCard
end Rows
end Go.Proofs.YtifpjbgnikjglaaGreatDoor

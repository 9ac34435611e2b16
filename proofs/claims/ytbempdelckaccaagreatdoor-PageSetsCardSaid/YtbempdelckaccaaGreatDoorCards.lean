/-
  DERIVED. GIVEN WITH THE SEED: THE CARDS: each row of YtbempdelckaccaaGreatDoorRows.lean that lists a variable, with what it lists TIED to the program's text (the seventh form; the later family's looks); each row that meets fmt, with fmt's text TOLD by the authors' own Lean function (tested against real Go, not proved from fmt's source: count such statements apart). THE CARD IS WHAT COUNTS. Prove the row's statement (the work); the ties are given (YtbempdelckaccaaGreatDoorTie.lean); close each card by the builder's one call (the guide's Derived/Test/ToyasCard.lean, 'card_holds'). Laid BY PROGRAM, IN A SANDBOX (cutbox-door.mjs). By AI agents, Wed Nov 11 2026. No macro, syntax, notation, axiom, sorry.
-/
import Derived.Test.YtbempdelckaccaaGreatDoorRows
import GoSem.ClaimSeven
namespace Go.Proofs.YtbempdelckaccaaGreatDoor
namespace Rows

/-- THE TIED CARD OF 'canticlelaw30.PageBound'. -/
def pageBoundCard : Claim7 := { stood := { row := pageBoundRow, standIns := [], harness := (true, "63e18e7aba9f223d6518c7a7a9c8c7218481f4b09efed1a668fc964a0dfa1cdf"), looks := false }, kinds := [], alts := [], laidByText := true, laidKinds := [.data, .pinned], laidTests := true, laidLooks := .later }
def PageBoundCardSaid : Prop := Claim7.holds Tryz.pinned (.plain (OpenSpec.ofChange pageBoundSpec)) pageBoundCard

/-- THE TIED CARD OF 'canticlelaw30.PageSets'. -/
def pageSetsCard : Claim7 := { stood := { row := pageSetsRow, standIns := [], harness := (true, "63e18e7aba9f223d6518c7a7a9c8c7218481f4b09efed1a668fc964a0dfa1cdf"), looks := false }, kinds := [], alts := [], laidByText := true, laidKinds := [.data, .pinned], laidTests := true, laidLooks := .later }
def PageSetsCardSaid : Prop := Claim7.holds Tryz.pinned (.plain (OpenSpec.ofChange pageSetsSpec)) pageSetsCard

/-- THE TIED CARD OF 'canticlelaw30.PageBack'. -/
def pageBackCard : Claim7 := { stood := { row := pageBackRow, standIns := [], harness := (true, "63e18e7aba9f223d6518c7a7a9c8c7218481f4b09efed1a668fc964a0dfa1cdf"), looks := false }, kinds := [], alts := [], laidByText := true, laidKinds := [.data, .pinned], laidTests := true, laidLooks := .later }
def PageBackCardSaid : Prop := Claim7.holds Tryz.pinned (.plain (OpenSpec.ofChange pageBackSpec)) pageBackCard

/-- THE TIED CARD OF 'canticlelaw30.PageRows'. -/
def pageRowsCard : Claim7 := { stood := { row := pageRowsRow, standIns := [], harness := (true, "63e18e7aba9f223d6518c7a7a9c8c7218481f4b09efed1a668fc964a0dfa1cdf"), looks := false }, kinds := [], alts := [], laidByText := true, laidKinds := [.data, .data, .data, .data, .pinned], laidTests := true, laidLooks := .later }
def PageRowsCardSaid : Prop := Claim7.holds Tryz.pinned (.plain (OpenSpec.ofChange pageRowsSpec)) pageRowsCard

/-- THE TIED CARD OF 'canticlelaw30.PageNames'. -/
def pageNamesCard : Claim7 := { stood := { row := pageNamesRow, standIns := [], harness := (true, "63e18e7aba9f223d6518c7a7a9c8c7218481f4b09efed1a668fc964a0dfa1cdf"), looks := false }, kinds := [], alts := [], laidByText := true, laidKinds := [.data, .data, .data, .data, .pinned], laidTests := true, laidLooks := .later }
def PageNamesCardSaid : Prop := Claim7.holds Tryz.pinned (.plain (OpenSpec.ofChange pageNamesSpec)) pageNamesCard

/-- THE SECOND FORM's CARD OF 'canticlelaw30.PageBound'. -/
def pageBoundUptoCard : Claim7 := { stood := { row := pageBoundUptoRow, standIns := [], harness := (true, "63e18e7aba9f223d6518c7a7a9c8c7218481f4b09efed1a668fc964a0dfa1cdf"), looks := false }, kinds := [], alts := [], laidByText := true, laidKinds := [.data, .pinned], laidTests := true, laidLooks := .later }
def PageBoundUptoCardSaid : Prop := Claim7.holds Tryz.pinned (.plain (OpenSpec.upto pageBoundSpec)) pageBoundUptoCard

/-- THE SECOND FORM's CARD OF 'canticlelaw30.PageSets'. -/
def pageSetsUptoCard : Claim7 := { stood := { row := pageSetsUptoRow, standIns := [], harness := (true, "63e18e7aba9f223d6518c7a7a9c8c7218481f4b09efed1a668fc964a0dfa1cdf"), looks := false }, kinds := [], alts := [], laidByText := true, laidKinds := [.data, .pinned], laidTests := true, laidLooks := .later }
def PageSetsUptoCardSaid : Prop := Claim7.holds Tryz.pinned (.plain (OpenSpec.upto pageSetsSpec)) pageSetsUptoCard

/-- THE SECOND FORM's CARD OF 'canticlelaw30.PageBack'. -/
def pageBackUptoCard : Claim7 := { stood := { row := pageBackUptoRow, standIns := [], harness := (true, "63e18e7aba9f223d6518c7a7a9c8c7218481f4b09efed1a668fc964a0dfa1cdf"), looks := false }, kinds := [], alts := [], laidByText := true, laidKinds := [.data, .pinned], laidTests := true, laidLooks := .later }
def PageBackUptoCardSaid : Prop := Claim7.holds Tryz.pinned (.plain (OpenSpec.upto pageBackSpec)) pageBackUptoCard

/-- THE SECOND FORM's CARD OF 'canticlelaw30.PageRows'. -/
def pageRowsUptoCard : Claim7 := { stood := { row := pageRowsUptoRow, standIns := [], harness := (true, "63e18e7aba9f223d6518c7a7a9c8c7218481f4b09efed1a668fc964a0dfa1cdf"), looks := false }, kinds := [], alts := [], laidByText := true, laidKinds := [.data, .data, .data, .data, .pinned], laidTests := true, laidLooks := .later }
def PageRowsUptoCardSaid : Prop := Claim7.holds Tryz.pinned (.plain (OpenSpec.upto pageRowsSpec)) pageRowsUptoCard

/-- THE SECOND FORM's CARD OF 'canticlelaw30.PageNames'. -/
def pageNamesUptoCard : Claim7 := { stood := { row := pageNamesUptoRow, standIns := [], harness := (true, "63e18e7aba9f223d6518c7a7a9c8c7218481f4b09efed1a668fc964a0dfa1cdf"), looks := false }, kinds := [], alts := [], laidByText := true, laidKinds := [.data, .data, .data, .data, .pinned], laidTests := true, laidLooks := .later }
def PageNamesUptoCardSaid : Prop := Claim7.holds Tryz.pinned (.plain (OpenSpec.upto pageNamesSpec)) pageNamesUptoCard
end Rows
end Go.Proofs.YtbempdelckaccaaGreatDoor

/-
  DERIVED. GIVEN WITH THE SEED: THE CARDS: each row of YtifpjbgnikjglaaDoorRows.lean that lists a variable, with what it lists TIED to the program's text (the seventh form; the later family's looks); each row that meets fmt, with fmt's text TOLD by the authors' own Lean function (tested against real Go, not proved from fmt's source: count such statements apart). THE CARD IS WHAT COUNTS. Prove the row's statement (the work); the ties are given (YtifpjbgnikjglaaDoorTie.lean); close each card by the builder's one call (the guide's Derived/Test/ToyasCard.lean, 'card_holds'). Laid BY PROGRAM, IN A SANDBOX (cutbox-door.mjs). By AI agents, Wed Nov 11 2026. No macro, syntax, notation, axiom, sorry.
-/
import Derived.Test.YtifpjbgnikjglaaDoorRows
import GoSem.ClaimSeven
namespace Go.Proofs.YtifpjbgnikjglaaDoor
namespace Rows

/-- THE TIED CARD OF 'canticlelaw22.CollateDress'. -/
def collateDressCard : Claim7 := { stood := { row := collateDressRow, standIns := [], harness := (true, "3ad43a678995ee6a72841f00e3b9ef29f5856fe3edd3b0e8873bbfe06312246e"), looks := false }, kinds := [], alts := [], laidByText := true, laidKinds := [.data, .pinned], laidTests := true, laidLooks := .later }
def CollateDressCardSaid : Prop := Claim7.holds Tryd.pinned (.plain (OpenSpec.ofChange collateDressSpec)) collateDressCard

/-- THE TIED CARD OF 'canticlelaw22.CollateBack'. -/
def collateBackCard : Claim7 := { stood := { row := collateBackRow, standIns := [], harness := (true, "3ad43a678995ee6a72841f00e3b9ef29f5856fe3edd3b0e8873bbfe06312246e"), looks := false }, kinds := [], alts := [], laidByText := true, laidKinds := [.data, .pinned], laidTests := true, laidLooks := .later }
def CollateBackCardSaid : Prop := Claim7.holds Tryd.pinned (.plain (OpenSpec.ofChange collateBackSpec)) collateBackCard

/-- THE TIED CARD OF 'canticlelaw22.CollateOrder'. -/
def collateOrderCard : Claim7 := { stood := { row := collateOrderRow, standIns := [], harness := (true, "3ad43a678995ee6a72841f00e3b9ef29f5856fe3edd3b0e8873bbfe06312246e"), looks := false }, kinds := [], alts := [], laidByText := true, laidKinds := [.data, .pinned], laidTests := true, laidLooks := .later }
def CollateOrderCardSaid : Prop := Claim7.holds Tryd.pinned (.plain (OpenSpec.ofChange collateOrderSpec)) collateOrderCard

/-- THE SECOND FORM's CARD OF 'canticlelaw22.CollateDress'. -/
def collateDressUptoCard : Claim7 := { stood := { row := collateDressUptoRow, standIns := [], harness := (true, "3ad43a678995ee6a72841f00e3b9ef29f5856fe3edd3b0e8873bbfe06312246e"), looks := false }, kinds := [], alts := [], laidByText := true, laidKinds := [.data, .pinned], laidTests := true, laidLooks := .later }
def CollateDressUptoCardSaid : Prop := Claim7.holds Tryd.pinned (.plain (OpenSpec.upto collateDressSpec)) collateDressUptoCard

/-- THE SECOND FORM's CARD OF 'canticlelaw22.CollateBack'. -/
def collateBackUptoCard : Claim7 := { stood := { row := collateBackUptoRow, standIns := [], harness := (true, "3ad43a678995ee6a72841f00e3b9ef29f5856fe3edd3b0e8873bbfe06312246e"), looks := false }, kinds := [], alts := [], laidByText := true, laidKinds := [.data, .pinned], laidTests := true, laidLooks := .later }
def CollateBackUptoCardSaid : Prop := Claim7.holds Tryd.pinned (.plain (OpenSpec.upto collateBackSpec)) collateBackUptoCard

/-- THE SECOND FORM's CARD OF 'canticlelaw22.CollateOrder'. -/
def collateOrderUptoCard : Claim7 := { stood := { row := collateOrderUptoRow, standIns := [], harness := (true, "3ad43a678995ee6a72841f00e3b9ef29f5856fe3edd3b0e8873bbfe06312246e"), looks := false }, kinds := [], alts := [], laidByText := true, laidKinds := [.data, .pinned], laidTests := true, laidLooks := .later }
def CollateOrderUptoCardSaid : Prop := Claim7.holds Tryd.pinned (.plain (OpenSpec.upto collateOrderSpec)) collateOrderUptoCard
end Rows
end Go.Proofs.YtifpjbgnikjglaaDoor

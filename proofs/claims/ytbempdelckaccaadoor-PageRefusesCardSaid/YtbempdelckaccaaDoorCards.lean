/-
  DERIVED. GIVEN WITH THE SEED: THE CARDS: each row of YtbempdelckaccaaDoorRows.lean that lists a variable, with what it lists TIED to the program's text (the seventh form; the later family's looks); each row that meets fmt, with fmt's text TOLD by the authors' own Lean function (tested against real Go, not proved from fmt's source: count such statements apart). THE CARD IS WHAT COUNTS. Prove the row's statement (the work); the ties are given (YtbempdelckaccaaDoorTie.lean); close each card by the builder's one call (the guide's Derived/Test/ToyasCard.lean, 'card_holds'). Laid BY PROGRAM, IN A SANDBOX (cutbox-door.mjs). By AI agents, Wed Nov 11 2026. No macro, syntax, notation, axiom, sorry.
-/
import Derived.Test.YtbempdelckaccaaDoorRows
import GoSem.ClaimSeven
namespace Go.Proofs.YtbempdelckaccaaDoor
namespace Rows

/-- THE TIED CARD OF 'canticlelaw30.PageCut'. -/
def pageCutCard : Claim7 := { stood := { row := pageCutRow, standIns := [], harness := (true, "e7d94ec1cd17813dde76a28fd3e18ba16093f8aa4f661d614d604c881213cc4d"), looks := false }, kinds := [], alts := [], laidByText := true, laidKinds := [.data, .pinned], laidTests := true, laidLooks := .later }
def PageCutCardSaid : Prop := Claim7.holds Tryd.pinned (.plain (OpenSpec.ofChange pageCutSpec)) pageCutCard

/-- THE TIED CARD OF 'canticlelaw30.PageRefuses'. -/
def pageRefusesCard : Claim7 := { stood := { row := pageRefusesRow, standIns := [], harness := (true, "e7d94ec1cd17813dde76a28fd3e18ba16093f8aa4f661d614d604c881213cc4d"), looks := false }, kinds := [], alts := [], laidByText := true, laidKinds := [.data, .pinned], laidTests := true, laidLooks := .later }
def PageRefusesCardSaid : Prop := Claim7.holds Tryd.pinned (.plain (OpenSpec.ofChange pageRefusesSpec)) pageRefusesCard

/-- THE SECOND FORM's CARD OF 'canticlelaw30.PageCut'. -/
def pageCutUptoCard : Claim7 := { stood := { row := pageCutUptoRow, standIns := [], harness := (true, "e7d94ec1cd17813dde76a28fd3e18ba16093f8aa4f661d614d604c881213cc4d"), looks := false }, kinds := [], alts := [], laidByText := true, laidKinds := [.data, .pinned], laidTests := true, laidLooks := .later }
def PageCutUptoCardSaid : Prop := Claim7.holds Tryd.pinned (.plain (OpenSpec.upto pageCutSpec)) pageCutUptoCard

/-- THE SECOND FORM's CARD OF 'canticlelaw30.PageRefuses'. -/
def pageRefusesUptoCard : Claim7 := { stood := { row := pageRefusesUptoRow, standIns := [], harness := (true, "e7d94ec1cd17813dde76a28fd3e18ba16093f8aa4f661d614d604c881213cc4d"), looks := false }, kinds := [], alts := [], laidByText := true, laidKinds := [.data, .pinned], laidTests := true, laidLooks := .later }
def PageRefusesUptoCardSaid : Prop := Claim7.holds Tryd.pinned (.plain (OpenSpec.upto pageRefusesSpec)) pageRefusesUptoCard
end Rows
end Go.Proofs.YtbempdelckaccaaDoor

/-
  DERIVED. GIVEN WITH THE SEED: THE CARDS: each row of YtgfkogafkhbgnaaDoorRows.lean that lists a variable, with what it lists TIED to the program's text (the seventh form; the later family's looks); each row that meets fmt, with fmt's text TOLD by the authors' own Lean function (tested against real Go, not proved from fmt's source: count such statements apart). THE CARD IS WHAT COUNTS. Prove the row's statement (the work); the ties are given (YtgfkogafkhbgnaaDoorTie.lean); close each card by the builder's one call (the guide's Derived/Test/ToyasCard.lean, 'card_holds'). Laid BY PROGRAM, IN A SANDBOX (cutbox-door.mjs). By AI agents, Wed Nov 11 2026. No macro, syntax, notation, axiom, sorry.
-/
import Derived.Test.YtgfkogafkhbgnaaDoorRows
import GoSem.ClaimSeven
namespace Go.Proofs.YtgfkogafkhbgnaaDoor
namespace Rows

/-- THE TIED CARD OF 'canticlelaw17.PoemBytes'. -/
def poemBytesCard : Claim7 := { stood := { row := poemBytesRow, standIns := [], harness := (true, "411a63f73631579938581efacf12eb0342a2031d9c85f40de2b6435dbed43bd8"), looks := false }, kinds := [], alts := [], laidByText := true, laidKinds := [.data, .pinned], laidTests := true, laidLooks := .later }
def PoemBytesCardSaid : Prop := Claim7.holds Tryd.pinned (.plain (OpenSpec.ofChange poemBytesSpec)) poemBytesCard

/-- THE TIED CARD OF 'canticlelaw17.PoemBack'. -/
def poemBackCard : Claim7 := { stood := { row := poemBackRow, standIns := [], harness := (true, "411a63f73631579938581efacf12eb0342a2031d9c85f40de2b6435dbed43bd8"), looks := false }, kinds := [], alts := [], laidByText := true, laidKinds := [.data, .pinned], laidTests := true, laidLooks := .later }
def PoemBackCardSaid : Prop := Claim7.holds Tryd.pinned (.plain (OpenSpec.ofChange poemBackSpec)) poemBackCard

/-- THE TIED CARD OF 'canticlelaw17.PoemJoined'. -/
def poemJoinedCard : Claim7 := { stood := { row := poemJoinedRow, standIns := [], harness := (true, "411a63f73631579938581efacf12eb0342a2031d9c85f40de2b6435dbed43bd8"), looks := false }, kinds := [], alts := [], laidByText := true, laidKinds := [.data, .pinned], laidTests := true, laidLooks := .later }
def PoemJoinedCardSaid : Prop := Claim7.holds Tryd.pinned (.plain (OpenSpec.ofChange poemJoinedSpec)) poemJoinedCard

/-- THE TIED CARD OF 'canticlelaw17.PoemCut'. -/
def poemCutCard : Claim7 := { stood := { row := poemCutRow, standIns := [], harness := (true, "411a63f73631579938581efacf12eb0342a2031d9c85f40de2b6435dbed43bd8"), looks := false }, kinds := [], alts := [], laidByText := true, laidKinds := [.data, .pinned], laidTests := true, laidLooks := .later }
def PoemCutCardSaid : Prop := Claim7.holds Tryd.pinned (.plain (OpenSpec.ofChange poemCutSpec)) poemCutCard

/-- THE TIED CARD OF 'canticlelaw17.PoemReads'. -/
def poemReadsCard : Claim7 := { stood := { row := poemReadsRow, standIns := [], harness := (true, "411a63f73631579938581efacf12eb0342a2031d9c85f40de2b6435dbed43bd8"), looks := false }, kinds := [], alts := [], laidByText := true, laidKinds := [.data, .pinned], laidTests := true, laidLooks := .later }
def PoemReadsCardSaid : Prop := Claim7.holds Tryd.pinned (.plain (OpenSpec.ofChange poemReadsSpec)) poemReadsCard

/-- THE TIED CARD OF 'canticlelaw17.PoemChanges'. -/
def poemChangesCard : Claim7 := { stood := { row := poemChangesRow, standIns := [], harness := (true, "411a63f73631579938581efacf12eb0342a2031d9c85f40de2b6435dbed43bd8"), looks := false }, kinds := [], alts := [], laidByText := true, laidKinds := [.data, .pinned], laidTests := true, laidLooks := .later }
def PoemChangesCardSaid : Prop := Claim7.holds Tryd.pinned (.plain (OpenSpec.ofChange poemChangesSpec)) poemChangesCard

/-- THE TIED CARD OF 'canticlelaw17.PoemMakes'. -/
def poemMakesCard : Claim7 := { stood := { row := poemMakesRow, standIns := [], harness := (true, "411a63f73631579938581efacf12eb0342a2031d9c85f40de2b6435dbed43bd8"), looks := false }, kinds := [], alts := [], laidByText := true, laidKinds := [.data, .pinned], laidTests := true, laidLooks := .later }
def PoemMakesCardSaid : Prop := Claim7.holds Tryd.pinned (.plain (OpenSpec.ofChange poemMakesSpec)) poemMakesCard

/-- THE TIED CARD OF 'canticlelaw17.PoemWords'. -/
def poemWordsCard : Claim7 := { stood := { row := poemWordsRow, standIns := [], harness := (true, "411a63f73631579938581efacf12eb0342a2031d9c85f40de2b6435dbed43bd8"), looks := false }, kinds := [], alts := [], laidByText := true, laidKinds := [.data, .pinned], laidTests := true, laidLooks := .later }
def PoemWordsCardSaid : Prop := Claim7.holds Tryd.pinned (.plain (OpenSpec.ofChange poemWordsSpec)) poemWordsCard

/-- THE TIED CARD OF 'canticlelaw17.PoemKnown'. -/
def poemKnownCard : Claim7 := { stood := { row := poemKnownRow, standIns := [], harness := (true, "411a63f73631579938581efacf12eb0342a2031d9c85f40de2b6435dbed43bd8"), looks := false }, kinds := [], alts := [], laidByText := true, laidKinds := [.data, .pinned], laidTests := true, laidLooks := .later }
def PoemKnownCardSaid : Prop := Claim7.holds Tryd.pinned (.plain (OpenSpec.ofChange poemKnownSpec)) poemKnownCard

/-- THE SECOND FORM's CARD OF 'canticlelaw17.PoemBytes'. -/
def poemBytesUptoCard : Claim7 := { stood := { row := poemBytesUptoRow, standIns := [], harness := (true, "411a63f73631579938581efacf12eb0342a2031d9c85f40de2b6435dbed43bd8"), looks := false }, kinds := [], alts := [], laidByText := true, laidKinds := [.data, .pinned], laidTests := true, laidLooks := .later }
def PoemBytesUptoCardSaid : Prop := Claim7.holds Tryd.pinned (.plain (OpenSpec.upto poemBytesSpec)) poemBytesUptoCard

/-- THE SECOND FORM's CARD OF 'canticlelaw17.PoemBack'. -/
def poemBackUptoCard : Claim7 := { stood := { row := poemBackUptoRow, standIns := [], harness := (true, "411a63f73631579938581efacf12eb0342a2031d9c85f40de2b6435dbed43bd8"), looks := false }, kinds := [], alts := [], laidByText := true, laidKinds := [.data, .pinned], laidTests := true, laidLooks := .later }
def PoemBackUptoCardSaid : Prop := Claim7.holds Tryd.pinned (.plain (OpenSpec.upto poemBackSpec)) poemBackUptoCard

/-- THE SECOND FORM's CARD OF 'canticlelaw17.PoemJoined'. -/
def poemJoinedUptoCard : Claim7 := { stood := { row := poemJoinedUptoRow, standIns := [], harness := (true, "411a63f73631579938581efacf12eb0342a2031d9c85f40de2b6435dbed43bd8"), looks := false }, kinds := [], alts := [], laidByText := true, laidKinds := [.data, .pinned], laidTests := true, laidLooks := .later }
def PoemJoinedUptoCardSaid : Prop := Claim7.holds Tryd.pinned (.plain (OpenSpec.upto poemJoinedSpec)) poemJoinedUptoCard

/-- THE SECOND FORM's CARD OF 'canticlelaw17.PoemCut'. -/
def poemCutUptoCard : Claim7 := { stood := { row := poemCutUptoRow, standIns := [], harness := (true, "411a63f73631579938581efacf12eb0342a2031d9c85f40de2b6435dbed43bd8"), looks := false }, kinds := [], alts := [], laidByText := true, laidKinds := [.data, .pinned], laidTests := true, laidLooks := .later }
def PoemCutUptoCardSaid : Prop := Claim7.holds Tryd.pinned (.plain (OpenSpec.upto poemCutSpec)) poemCutUptoCard

/-- THE SECOND FORM's CARD OF 'canticlelaw17.PoemReads'. -/
def poemReadsUptoCard : Claim7 := { stood := { row := poemReadsUptoRow, standIns := [], harness := (true, "411a63f73631579938581efacf12eb0342a2031d9c85f40de2b6435dbed43bd8"), looks := false }, kinds := [], alts := [], laidByText := true, laidKinds := [.data, .pinned], laidTests := true, laidLooks := .later }
def PoemReadsUptoCardSaid : Prop := Claim7.holds Tryd.pinned (.plain (OpenSpec.upto poemReadsSpec)) poemReadsUptoCard

/-- THE SECOND FORM's CARD OF 'canticlelaw17.PoemChanges'. -/
def poemChangesUptoCard : Claim7 := { stood := { row := poemChangesUptoRow, standIns := [], harness := (true, "411a63f73631579938581efacf12eb0342a2031d9c85f40de2b6435dbed43bd8"), looks := false }, kinds := [], alts := [], laidByText := true, laidKinds := [.data, .pinned], laidTests := true, laidLooks := .later }
def PoemChangesUptoCardSaid : Prop := Claim7.holds Tryd.pinned (.plain (OpenSpec.upto poemChangesSpec)) poemChangesUptoCard

/-- THE SECOND FORM's CARD OF 'canticlelaw17.PoemMakes'. -/
def poemMakesUptoCard : Claim7 := { stood := { row := poemMakesUptoRow, standIns := [], harness := (true, "411a63f73631579938581efacf12eb0342a2031d9c85f40de2b6435dbed43bd8"), looks := false }, kinds := [], alts := [], laidByText := true, laidKinds := [.data, .pinned], laidTests := true, laidLooks := .later }
def PoemMakesUptoCardSaid : Prop := Claim7.holds Tryd.pinned (.plain (OpenSpec.upto poemMakesSpec)) poemMakesUptoCard

/-- THE SECOND FORM's CARD OF 'canticlelaw17.PoemWords'. -/
def poemWordsUptoCard : Claim7 := { stood := { row := poemWordsUptoRow, standIns := [], harness := (true, "411a63f73631579938581efacf12eb0342a2031d9c85f40de2b6435dbed43bd8"), looks := false }, kinds := [], alts := [], laidByText := true, laidKinds := [.data, .pinned], laidTests := true, laidLooks := .later }
def PoemWordsUptoCardSaid : Prop := Claim7.holds Tryd.pinned (.plain (OpenSpec.upto poemWordsSpec)) poemWordsUptoCard

/-- THE SECOND FORM's CARD OF 'canticlelaw17.PoemKnown'. -/
def poemKnownUptoCard : Claim7 := { stood := { row := poemKnownUptoRow, standIns := [], harness := (true, "411a63f73631579938581efacf12eb0342a2031d9c85f40de2b6435dbed43bd8"), looks := false }, kinds := [], alts := [], laidByText := true, laidKinds := [.data, .pinned], laidTests := true, laidLooks := .later }
def PoemKnownUptoCardSaid : Prop := Claim7.holds Tryd.pinned (.plain (OpenSpec.upto poemKnownSpec)) poemKnownUptoCard
end Rows
end Go.Proofs.YtgfkogafkhbgnaaDoor

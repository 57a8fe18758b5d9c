/-
  DERIVED. GIVEN WITH THE SEED: THE CARDS: each row of YtekbdfnbnpmclaaDoorRows.lean that lists a variable, with what it lists TIED to the program's text (the seventh form; the later family's looks); each row that meets fmt, with fmt's text TOLD by the authors' own Lean function (tested against real Go, not proved from fmt's source: count such statements apart). THE CARD IS WHAT COUNTS. Prove the row's statement (the work); the ties are given (YtekbdfnbnpmclaaDoorTie.lean); close each card by the builder's one call (the guide's Derived/Test/ToyasCard.lean, 'card_holds'). Laid BY PROGRAM, IN A SANDBOX (cutbox-door.mjs). By AI agents, Wed Nov 11 2026. No macro, syntax, notation, axiom, sorry.
-/
import Derived.Test.YtekbdfnbnpmclaaDoorRows
import GoSem.ClaimSeven
namespace Go.Proofs.YtekbdfnbnpmclaaDoor
namespace Rows

/-- THE TIED CARD OF 'countersignlaw17.ClientAuth'. -/
def clientAuthCard : Claim7 := { stood := { row := clientAuthRow, standIns := [], harness := (true, "07cc56f97b1dea4b5b2161f3788ccc0d89235268cd52a3aad4cfa62d61e215df"), looks := false }, kinds := [], alts := [], laidByText := true, laidKinds := [.data, .widerDeep, .pinned], laidTests := true, laidLooks := .later }
def ClientAuthCardSaid : Prop := Claim7.holds Tryd.pinned (.plain (OpenSpec.ofChange clientAuthSpec)) clientAuthCard

/-- THE TIED CARD OF 'countersignlaw17.ClientShows'. -/
def clientShowsCard : Claim7 := { stood := { row := clientShowsRow, standIns := [], harness := (true, "07cc56f97b1dea4b5b2161f3788ccc0d89235268cd52a3aad4cfa62d61e215df"), looks := false }, kinds := [], alts := [], laidByText := true, laidKinds := [.data, .widerDeep, .pinned], laidTests := true, laidLooks := .later }
def ClientShowsCardSaid : Prop := Claim7.holds Tryd.pinned (.plain (OpenSpec.ofChange clientShowsSpec)) clientShowsCard

/-- THE TIED CARD OF 'countersignlaw17.ClientKnows'. -/
def clientKnowsCard : Claim7 := { stood := { row := clientKnowsRow, standIns := [], harness := (true, "07cc56f97b1dea4b5b2161f3788ccc0d89235268cd52a3aad4cfa62d61e215df"), looks := false }, kinds := [], alts := [], laidByText := true, laidKinds := [.data, .widerDeep, .pinned], laidTests := true, laidLooks := .later }
def ClientKnowsCardSaid : Prop := Claim7.holds Tryd.pinned (.plain (OpenSpec.ofChange clientKnowsSpec)) clientKnowsCard

/-- THE SECOND FORM's CARD OF 'countersignlaw17.ClientAuth'. -/
def clientAuthUptoCard : Claim7 := { stood := { row := clientAuthUptoRow, standIns := [], harness := (true, "07cc56f97b1dea4b5b2161f3788ccc0d89235268cd52a3aad4cfa62d61e215df"), looks := false }, kinds := [], alts := [], laidByText := true, laidKinds := [.data, .widerDeep, .pinned], laidTests := true, laidLooks := .later }
def ClientAuthUptoCardSaid : Prop := Claim7.holds Tryd.pinned (.plain (OpenSpec.upto clientAuthSpec)) clientAuthUptoCard

/-- THE SECOND FORM's CARD OF 'countersignlaw17.ClientShows'. -/
def clientShowsUptoCard : Claim7 := { stood := { row := clientShowsUptoRow, standIns := [], harness := (true, "07cc56f97b1dea4b5b2161f3788ccc0d89235268cd52a3aad4cfa62d61e215df"), looks := false }, kinds := [], alts := [], laidByText := true, laidKinds := [.data, .widerDeep, .pinned], laidTests := true, laidLooks := .later }
def ClientShowsUptoCardSaid : Prop := Claim7.holds Tryd.pinned (.plain (OpenSpec.upto clientShowsSpec)) clientShowsUptoCard

/-- THE SECOND FORM's CARD OF 'countersignlaw17.ClientKnows'. -/
def clientKnowsUptoCard : Claim7 := { stood := { row := clientKnowsUptoRow, standIns := [], harness := (true, "07cc56f97b1dea4b5b2161f3788ccc0d89235268cd52a3aad4cfa62d61e215df"), looks := false }, kinds := [], alts := [], laidByText := true, laidKinds := [.data, .widerDeep, .pinned], laidTests := true, laidLooks := .later }
def ClientKnowsUptoCardSaid : Prop := Claim7.holds Tryd.pinned (.plain (OpenSpec.upto clientKnowsSpec)) clientKnowsUptoCard
end Rows
end Go.Proofs.YtekbdfnbnpmclaaDoor

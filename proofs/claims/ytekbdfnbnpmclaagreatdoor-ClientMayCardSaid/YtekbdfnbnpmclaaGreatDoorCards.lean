/-
  DERIVED. GIVEN WITH THE SEED: THE CARDS: each row of YtekbdfnbnpmclaaGreatDoorRows.lean that lists a variable, with what it lists TIED to the program's text (the seventh form; the later family's looks); each row that meets fmt, with fmt's text TOLD by the authors' own Lean function (tested against real Go, not proved from fmt's source: count such statements apart). THE CARD IS WHAT COUNTS. Prove the row's statement (the work); the ties are given (YtekbdfnbnpmclaaGreatDoorTie.lean); close each card by the builder's one call (the guide's Derived/Test/ToyasCard.lean, 'card_holds'). Laid BY PROGRAM, IN A SANDBOX (cutbox-door.mjs). By AI agents, Wed Nov 11 2026. No macro, syntax, notation, axiom, sorry.
-/
import Derived.Test.YtekbdfnbnpmclaaGreatDoorRows
import GoSem.ClaimSeven
namespace Go.Proofs.YtekbdfnbnpmclaaGreatDoor
namespace Rows

/-- THE TIED CARD OF 'countersignlaw17.ClientMay'. -/
def clientMayCard : Claim7 := { stood := { row := clientMayRow, standIns := [], harness := (true, "416f8ca00c5bfded2cb1a363fc0ea5d808ddedcf6195a2e5649fef18f4a3cab4"), looks := false }, kinds := [], alts := [], laidByText := true, laidKinds := [.data, .widerDeep, .pinned], laidTests := true, laidLooks := .later }
def ClientMayCardSaid : Prop := Claim7.holds Tryz.pinned (.plain (OpenSpec.ofChange clientMaySpec)) clientMayCard

/-- THE SECOND FORM's CARD OF 'countersignlaw17.ClientMay'. -/
def clientMayUptoCard : Claim7 := { stood := { row := clientMayUptoRow, standIns := [], harness := (true, "416f8ca00c5bfded2cb1a363fc0ea5d808ddedcf6195a2e5649fef18f4a3cab4"), looks := false }, kinds := [], alts := [], laidByText := true, laidKinds := [.data, .widerDeep, .pinned], laidTests := true, laidLooks := .later }
def ClientMayUptoCardSaid : Prop := Claim7.holds Tryz.pinned (.plain (OpenSpec.upto clientMaySpec)) clientMayUptoCard
end Rows
end Go.Proofs.YtekbdfnbnpmclaaGreatDoor

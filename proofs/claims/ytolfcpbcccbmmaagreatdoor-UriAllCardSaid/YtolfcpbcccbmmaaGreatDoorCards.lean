/-
  DERIVED. GIVEN WITH THE SEED: THE CARDS: each row of YtolfcpbcccbmmaaGreatDoorRows.lean that lists a variable, with what it lists TIED to the program's text (the seventh form; the later family's looks); each row that meets fmt, with fmt's text TOLD by the authors' own Lean function (tested against real Go, not proved from fmt's source: count such statements apart). THE CARD IS WHAT COUNTS. Prove the row's statement (the work); the ties are given (YtolfcpbcccbmmaaGreatDoorTie.lean); close each card by the builder's one call (the guide's Derived/Test/ToyasCard.lean, 'card_holds'). Laid BY PROGRAM, IN A SANDBOX (cutbox-door.mjs). By AI agents, Wed Nov 11 2026. No macro, syntax, notation, axiom, sorry.
-/
import Derived.Test.YtolfcpbcccbmmaaGreatDoorRows
import GoSem.ClaimSeven
namespace Go.Proofs.YtolfcpbcccbmmaaGreatDoor
namespace Rows

/-- THE TIED CARD OF 'countersignlaw11.UriAll'. -/
def uriAllCard : Claim7 := { stood := { row := uriAllRow, standIns := [], harness := (true, "1f0abd32006b7e433b797be6f97e6fd252e2f5030d32fc1627fd3abea6a75efe"), looks := false }, kinds := [], alts := [], laidByText := true, laidKinds := [.data, .widerDeep, .pinned], laidTests := true, laidLooks := .later }
def UriAllCardSaid : Prop := Claim7.holds Tryz.pinned (.plain (OpenSpec.ofChange uriAllSpec)) uriAllCard

/-- THE SECOND FORM's CARD OF 'countersignlaw11.UriAll'. -/
def uriAllUptoCard : Claim7 := { stood := { row := uriAllUptoRow, standIns := [], harness := (true, "1f0abd32006b7e433b797be6f97e6fd252e2f5030d32fc1627fd3abea6a75efe"), looks := false }, kinds := [], alts := [], laidByText := true, laidKinds := [.data, .widerDeep, .pinned], laidTests := true, laidLooks := .later }
def UriAllUptoCardSaid : Prop := Claim7.holds Tryz.pinned (.plain (OpenSpec.upto uriAllSpec)) uriAllUptoCard
end Rows
end Go.Proofs.YtolfcpbcccbmmaaGreatDoor

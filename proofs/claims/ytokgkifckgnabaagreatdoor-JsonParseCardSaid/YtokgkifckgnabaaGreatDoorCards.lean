/-
  DERIVED. GIVEN WITH THE SEED: THE CARDS: each row of YtokgkifckgnabaaGreatDoorRows.lean that lists a variable, with what it lists TIED to the program's text (the seventh form; the later family's looks); each row that meets fmt, with fmt's text TOLD by the authors' own Lean function (tested against real Go, not proved from fmt's source: count such statements apart). THE CARD IS WHAT COUNTS. Prove the row's statement (the work); the ties are given (YtokgkifckgnabaaGreatDoorTie.lean); close each card by the builder's one call (the guide's Derived/Test/ToyasCard.lean, 'card_holds'). Laid BY PROGRAM, IN A SANDBOX (cutbox-door.mjs). By AI agents, Wed Nov 11 2026. No macro, syntax, notation, axiom, sorry.
-/
import Derived.Test.YtokgkifckgnabaaGreatDoorRows
import GoSem.ClaimSeven
namespace Go.Proofs.YtokgkifckgnabaaGreatDoor
namespace Rows

/-- THE TIED CARD OF 'countersignlaw12.JsonParse'. -/
def jsonParseCard : Claim7 := { stood := { row := jsonParseRow, standIns := [], harness := (true, "9b7b8b63b5b90ecc20989be99255aead553328a7359756e26ee4952b679d7691"), looks := true }, kinds := [], alts := [], laidByText := true, laidKinds := [.data, .data, .data, .sentinel, .sentinel], laidTests := true, laidLooks := .later }
def JsonParseCardSaid : Prop := Claim7.holds Tryz.pinned (.plain (OpenSpec.ofChange jsonParseSpec)) jsonParseCard

/-- THE TIED CARD OF 'countersignlaw12.JsonPrint'. -/
def jsonPrintCard : Claim7 := { stood := { row := jsonPrintRow, standIns := [], harness := (true, "9b7b8b63b5b90ecc20989be99255aead553328a7359756e26ee4952b679d7691"), looks := true }, kinds := [], alts := [], laidByText := true, laidKinds := [.data, .data, .data, .sentinel, .sentinel], laidTests := true, laidLooks := .later }
def JsonPrintCardSaid : Prop := Claim7.holds Tryz.pinned (.plain (OpenSpec.ofChange jsonPrintSpec)) jsonPrintCard

/-- THE SECOND FORM's CARD OF 'countersignlaw12.JsonParse'. -/
def jsonParseUptoCard : Claim7 := { stood := { row := jsonParseUptoRow, standIns := [], harness := (true, "9b7b8b63b5b90ecc20989be99255aead553328a7359756e26ee4952b679d7691"), looks := true }, kinds := [], alts := [], laidByText := true, laidKinds := [.data, .data, .data, .sentinel, .sentinel], laidTests := true, laidLooks := .later }
def JsonParseUptoCardSaid : Prop := Claim7.holds Tryz.pinned (.plain (OpenSpec.upto jsonParseSpec)) jsonParseUptoCard

/-- THE SECOND FORM's CARD OF 'countersignlaw12.JsonPrint'. -/
def jsonPrintUptoCard : Claim7 := { stood := { row := jsonPrintUptoRow, standIns := [], harness := (true, "9b7b8b63b5b90ecc20989be99255aead553328a7359756e26ee4952b679d7691"), looks := true }, kinds := [], alts := [], laidByText := true, laidKinds := [.data, .data, .data, .sentinel, .sentinel], laidTests := true, laidLooks := .later }
def JsonPrintUptoCardSaid : Prop := Claim7.holds Tryz.pinned (.plain (OpenSpec.upto jsonPrintSpec)) jsonPrintUptoCard
end Rows
end Go.Proofs.YtokgkifckgnabaaGreatDoor

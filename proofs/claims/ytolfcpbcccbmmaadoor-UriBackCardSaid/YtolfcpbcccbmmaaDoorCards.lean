/-
  DERIVED. GIVEN WITH THE SEED: THE CARDS: each row of YtolfcpbcccbmmaaDoorRows.lean that lists a variable, with what it lists TIED to the program's text (the seventh form; the later family's looks); each row that meets fmt, with fmt's text TOLD by the authors' own Lean function (tested against real Go, not proved from fmt's source: count such statements apart). THE CARD IS WHAT COUNTS. Prove the row's statement (the work); the ties are given (YtolfcpbcccbmmaaDoorTie.lean); close each card by the builder's one call (the guide's Derived/Test/ToyasCard.lean, 'card_holds'). Laid BY PROGRAM, IN A SANDBOX (cutbox-door.mjs). By AI agents, Wed Nov 11 2026. No macro, syntax, notation, axiom, sorry.
-/
import Derived.Test.YtolfcpbcccbmmaaDoorRows
import GoSem.ClaimSeven
namespace Go.Proofs.YtolfcpbcccbmmaaDoor
namespace Rows

/-- THE TIED CARD OF 'countersignlaw11.UriMay'. -/
def uriMayCard : Claim7 := { stood := { row := uriMayRow, standIns := [], harness := (true, "ddd9c5a4f2f83ff1e3c9d18ffcfaefd0b59006a8989f91e485af8f5b2b846ac6"), looks := false }, kinds := [], alts := [], laidByText := true, laidKinds := [.data, .widerDeep, .pinned], laidTests := true, laidLooks := .later }
def UriMayCardSaid : Prop := Claim7.holds Tryd.pinned (.plain (OpenSpec.ofChange uriMaySpec)) uriMayCard

/-- THE TIED CARD OF 'countersignlaw11.UriBack'. -/
def uriBackCard : Claim7 := { stood := { row := uriBackRow, standIns := [], harness := (true, "ddd9c5a4f2f83ff1e3c9d18ffcfaefd0b59006a8989f91e485af8f5b2b846ac6"), looks := false }, kinds := [], alts := [], laidByText := true, laidKinds := [.data, .widerDeep, .pinned], laidTests := true, laidLooks := .later }
def UriBackCardSaid : Prop := Claim7.holds Tryd.pinned (.plain (OpenSpec.ofChange uriBackSpec)) uriBackCard

/-- THE TIED CARD OF 'countersignlaw11.UriBounds'. -/
def uriBoundsCard : Claim7 := { stood := { row := uriBoundsRow, standIns := [], harness := (true, "ddd9c5a4f2f83ff1e3c9d18ffcfaefd0b59006a8989f91e485af8f5b2b846ac6"), looks := false }, kinds := [], alts := [], laidByText := true, laidKinds := [.data, .widerDeep, .pinned], laidTests := true, laidLooks := .later }
def UriBoundsCardSaid : Prop := Claim7.holds Tryd.pinned (.plain (OpenSpec.ofChange uriBoundsSpec)) uriBoundsCard

/-- THE SECOND FORM's CARD OF 'countersignlaw11.UriMay'. -/
def uriMayUptoCard : Claim7 := { stood := { row := uriMayUptoRow, standIns := [], harness := (true, "ddd9c5a4f2f83ff1e3c9d18ffcfaefd0b59006a8989f91e485af8f5b2b846ac6"), looks := false }, kinds := [], alts := [], laidByText := true, laidKinds := [.data, .widerDeep, .pinned], laidTests := true, laidLooks := .later }
def UriMayUptoCardSaid : Prop := Claim7.holds Tryd.pinned (.plain (OpenSpec.upto uriMaySpec)) uriMayUptoCard

/-- THE SECOND FORM's CARD OF 'countersignlaw11.UriBack'. -/
def uriBackUptoCard : Claim7 := { stood := { row := uriBackUptoRow, standIns := [], harness := (true, "ddd9c5a4f2f83ff1e3c9d18ffcfaefd0b59006a8989f91e485af8f5b2b846ac6"), looks := false }, kinds := [], alts := [], laidByText := true, laidKinds := [.data, .widerDeep, .pinned], laidTests := true, laidLooks := .later }
def UriBackUptoCardSaid : Prop := Claim7.holds Tryd.pinned (.plain (OpenSpec.upto uriBackSpec)) uriBackUptoCard

/-- THE SECOND FORM's CARD OF 'countersignlaw11.UriBounds'. -/
def uriBoundsUptoCard : Claim7 := { stood := { row := uriBoundsUptoRow, standIns := [], harness := (true, "ddd9c5a4f2f83ff1e3c9d18ffcfaefd0b59006a8989f91e485af8f5b2b846ac6"), looks := false }, kinds := [], alts := [], laidByText := true, laidKinds := [.data, .widerDeep, .pinned], laidTests := true, laidLooks := .later }
def UriBoundsUptoCardSaid : Prop := Claim7.holds Tryd.pinned (.plain (OpenSpec.upto uriBoundsSpec)) uriBoundsUptoCard
end Rows
end Go.Proofs.YtolfcpbcccbmmaaDoor

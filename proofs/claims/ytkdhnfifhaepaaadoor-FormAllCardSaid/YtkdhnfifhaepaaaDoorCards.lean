/-
  DERIVED. GIVEN WITH THE SEED: THE CARDS: each row of YtkdhnfifhaepaaaDoorRows.lean that lists a variable, with what it lists TIED to the program's text (the seventh form; the later family's looks); each row that meets fmt, with fmt's text TOLD by the authors' own Lean function (tested against real Go, not proved from fmt's source: count such statements apart). THE CARD IS WHAT COUNTS. Prove the row's statement (the work); the ties are given (YtkdhnfifhaepaaaDoorTie.lean); close each card by the builder's one call (the guide's Derived/Test/ToyasCard.lean, 'card_holds'). Laid BY PROGRAM, IN A SANDBOX (cutbox-door.mjs). By AI agents, Wed Nov 11 2026. No macro, syntax, notation, axiom, sorry.
-/
import Derived.Test.YtkdhnfifhaepaaaDoorRows
import GoSem.ClaimSeven
namespace Go.Proofs.YtkdhnfifhaepaaaDoor
namespace Rows

/-- THE TIED CARD OF 'countersignlaw10.FormAll'. -/
def formAllCard : Claim7 := { stood := { row := formAllRow, standIns := [], harness := (true, "e1ff8612aff5e9c40298944a8eea1f82afbf6df98225348dd9b40c3fc39944f4"), looks := false }, kinds := [], alts := [], laidByText := true, laidKinds := [.data, .widerDeep, .pinned], laidTests := true, laidLooks := .later }
def FormAllCardSaid : Prop := Claim7.holds Tryd.pinned (.plain (OpenSpec.ofChange formAllSpec)) formAllCard

/-- THE TIED CARD OF 'countersignlaw10.FormBack'. -/
def formBackCard : Claim7 := { stood := { row := formBackRow, standIns := [], harness := (true, "e1ff8612aff5e9c40298944a8eea1f82afbf6df98225348dd9b40c3fc39944f4"), looks := false }, kinds := [], alts := [], laidByText := true, laidKinds := [.data, .widerDeep, .pinned], laidTests := true, laidLooks := .later }
def FormBackCardSaid : Prop := Claim7.holds Tryd.pinned (.plain (OpenSpec.ofChange formBackSpec)) formBackCard

/-- THE TIED CARD OF 'countersignlaw10.FormOnly'. -/
def formOnlyCard : Claim7 := { stood := { row := formOnlyRow, standIns := [], harness := (true, "e1ff8612aff5e9c40298944a8eea1f82afbf6df98225348dd9b40c3fc39944f4"), looks := false }, kinds := [], alts := [], laidByText := true, laidKinds := [.data, .widerDeep, .pinned], laidTests := true, laidLooks := .later }
def FormOnlyCardSaid : Prop := Claim7.holds Tryd.pinned (.plain (OpenSpec.ofChange formOnlySpec)) formOnlyCard

/-- THE TIED CARD OF 'countersignlaw10.FormMany'. -/
def formManyCard : Claim7 := { stood := { row := formManyRow, standIns := [], harness := (true, "e1ff8612aff5e9c40298944a8eea1f82afbf6df98225348dd9b40c3fc39944f4"), looks := false }, kinds := [], alts := [], laidByText := true, laidKinds := [.data, .widerDeep, .pinned], laidTests := true, laidLooks := .later }
def FormManyCardSaid : Prop := Claim7.holds Tryd.pinned (.plain (OpenSpec.ofChange formManySpec)) formManyCard

/-- THE SECOND FORM's CARD OF 'countersignlaw10.FormAll'. -/
def formAllUptoCard : Claim7 := { stood := { row := formAllUptoRow, standIns := [], harness := (true, "e1ff8612aff5e9c40298944a8eea1f82afbf6df98225348dd9b40c3fc39944f4"), looks := false }, kinds := [], alts := [], laidByText := true, laidKinds := [.data, .widerDeep, .pinned], laidTests := true, laidLooks := .later }
def FormAllUptoCardSaid : Prop := Claim7.holds Tryd.pinned (.plain (OpenSpec.upto formAllSpec)) formAllUptoCard

/-- THE SECOND FORM's CARD OF 'countersignlaw10.FormBack'. -/
def formBackUptoCard : Claim7 := { stood := { row := formBackUptoRow, standIns := [], harness := (true, "e1ff8612aff5e9c40298944a8eea1f82afbf6df98225348dd9b40c3fc39944f4"), looks := false }, kinds := [], alts := [], laidByText := true, laidKinds := [.data, .widerDeep, .pinned], laidTests := true, laidLooks := .later }
def FormBackUptoCardSaid : Prop := Claim7.holds Tryd.pinned (.plain (OpenSpec.upto formBackSpec)) formBackUptoCard

/-- THE SECOND FORM's CARD OF 'countersignlaw10.FormOnly'. -/
def formOnlyUptoCard : Claim7 := { stood := { row := formOnlyUptoRow, standIns := [], harness := (true, "e1ff8612aff5e9c40298944a8eea1f82afbf6df98225348dd9b40c3fc39944f4"), looks := false }, kinds := [], alts := [], laidByText := true, laidKinds := [.data, .widerDeep, .pinned], laidTests := true, laidLooks := .later }
def FormOnlyUptoCardSaid : Prop := Claim7.holds Tryd.pinned (.plain (OpenSpec.upto formOnlySpec)) formOnlyUptoCard

/-- THE SECOND FORM's CARD OF 'countersignlaw10.FormMany'. -/
def formManyUptoCard : Claim7 := { stood := { row := formManyUptoRow, standIns := [], harness := (true, "e1ff8612aff5e9c40298944a8eea1f82afbf6df98225348dd9b40c3fc39944f4"), looks := false }, kinds := [], alts := [], laidByText := true, laidKinds := [.data, .widerDeep, .pinned], laidTests := true, laidLooks := .later }
def FormManyUptoCardSaid : Prop := Claim7.holds Tryd.pinned (.plain (OpenSpec.upto formManySpec)) formManyUptoCard
end Rows
end Go.Proofs.YtkdhnfifhaepaaaDoor

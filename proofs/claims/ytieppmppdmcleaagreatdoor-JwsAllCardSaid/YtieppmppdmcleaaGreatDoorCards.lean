/-
  DERIVED. GIVEN WITH THE SEED: THE CARDS: each row of YtieppmppdmcleaaGreatDoorRows.lean that lists a variable, with what it lists TIED to the program's text (the seventh form; the later family's looks); each row that meets fmt, with fmt's text TOLD by the authors' own Lean function (tested against real Go, not proved from fmt's source: count such statements apart). THE CARD IS WHAT COUNTS. Prove the row's statement (the work); the ties are given (YtieppmppdmcleaaGreatDoorTie.lean); close each card by the builder's one call (the guide's Derived/Test/ToyasCard.lean, 'card_holds'). Laid BY PROGRAM, IN A SANDBOX (cutbox-door.mjs). By AI agents, Wed Nov 11 2026. No macro, syntax, notation, axiom, sorry.
-/
import Derived.Test.YtieppmppdmcleaaGreatDoorRows
import GoSem.ClaimSeven
namespace Go.Proofs.YtieppmppdmcleaaGreatDoor
namespace Rows

/-- THE TIED CARD OF 'countersignlaw15.JwsAll'. -/
def jwsAllCard : Claim7 := { stood := { row := jwsAllRow, standIns := [], harness := (true, "8aae3b10bd1ce3893f0cd3aee8ea81929e3474d8e622be0bd2a9bac943bb4756"), looks := true }, kinds := [], alts := [], laidByText := true, laidKinds := [.data, .data, .data, .data, .sentinel, .sentinel, .pinned], laidTests := true, laidLooks := .later }
def JwsAllCardSaid : Prop := Claim7.holds Tryz.pinned (.plain (OpenSpec.ofChange jwsAllSpec)) jwsAllCard

/-- THE TIED CARD OF 'countersignlaw15.JwsBack'. -/
def jwsBackCard : Claim7 := { stood := { row := jwsBackRow, standIns := [], harness := (true, "8aae3b10bd1ce3893f0cd3aee8ea81929e3474d8e622be0bd2a9bac943bb4756"), looks := true }, kinds := [], alts := [], laidByText := true, laidKinds := [.data, .data, .data, .data, .sentinel, .sentinel, .pinned], laidTests := true, laidLooks := .later }
def JwsBackCardSaid : Prop := Claim7.holds Tryz.pinned (.plain (OpenSpec.ofChange jwsBackSpec)) jwsBackCard

/-- THE TIED CARD OF 'countersignlaw15.JwsParts'. -/
def jwsPartsCard : Claim7 := { stood := { row := jwsPartsRow, standIns := [], harness := (true, "8aae3b10bd1ce3893f0cd3aee8ea81929e3474d8e622be0bd2a9bac943bb4756"), looks := true }, kinds := [], alts := [], laidByText := true, laidKinds := [.data, .data, .data, .data, .sentinel, .sentinel, .pinned], laidTests := true, laidLooks := .later }
def JwsPartsCardSaid : Prop := Claim7.holds Tryz.pinned (.plain (OpenSpec.ofChange jwsPartsSpec)) jwsPartsCard

/-- THE TIED CARD OF 'countersignlaw15.JwsLong'. -/
def jwsLongCard : Claim7 := { stood := { row := jwsLongRow, standIns := [], harness := (true, "8aae3b10bd1ce3893f0cd3aee8ea81929e3474d8e622be0bd2a9bac943bb4756"), looks := true }, kinds := [], alts := [], laidByText := true, laidKinds := [.data, .data, .data, .data, .sentinel, .sentinel, .pinned], laidTests := true, laidLooks := .later }
def JwsLongCardSaid : Prop := Claim7.holds Tryz.pinned (.plain (OpenSpec.ofChange jwsLongSpec)) jwsLongCard

/-- THE SECOND FORM's CARD OF 'countersignlaw15.JwsAll'. -/
def jwsAllUptoCard : Claim7 := { stood := { row := jwsAllUptoRow, standIns := [], harness := (true, "8aae3b10bd1ce3893f0cd3aee8ea81929e3474d8e622be0bd2a9bac943bb4756"), looks := true }, kinds := [], alts := [], laidByText := true, laidKinds := [.data, .data, .data, .data, .sentinel, .sentinel, .pinned], laidTests := true, laidLooks := .later }
def JwsAllUptoCardSaid : Prop := Claim7.holds Tryz.pinned (.plain (OpenSpec.upto jwsAllSpec)) jwsAllUptoCard

/-- THE SECOND FORM's CARD OF 'countersignlaw15.JwsBack'. -/
def jwsBackUptoCard : Claim7 := { stood := { row := jwsBackUptoRow, standIns := [], harness := (true, "8aae3b10bd1ce3893f0cd3aee8ea81929e3474d8e622be0bd2a9bac943bb4756"), looks := true }, kinds := [], alts := [], laidByText := true, laidKinds := [.data, .data, .data, .data, .sentinel, .sentinel, .pinned], laidTests := true, laidLooks := .later }
def JwsBackUptoCardSaid : Prop := Claim7.holds Tryz.pinned (.plain (OpenSpec.upto jwsBackSpec)) jwsBackUptoCard

/-- THE SECOND FORM's CARD OF 'countersignlaw15.JwsParts'. -/
def jwsPartsUptoCard : Claim7 := { stood := { row := jwsPartsUptoRow, standIns := [], harness := (true, "8aae3b10bd1ce3893f0cd3aee8ea81929e3474d8e622be0bd2a9bac943bb4756"), looks := true }, kinds := [], alts := [], laidByText := true, laidKinds := [.data, .data, .data, .data, .sentinel, .sentinel, .pinned], laidTests := true, laidLooks := .later }
def JwsPartsUptoCardSaid : Prop := Claim7.holds Tryz.pinned (.plain (OpenSpec.upto jwsPartsSpec)) jwsPartsUptoCard

/-- THE SECOND FORM's CARD OF 'countersignlaw15.JwsLong'. -/
def jwsLongUptoCard : Claim7 := { stood := { row := jwsLongUptoRow, standIns := [], harness := (true, "8aae3b10bd1ce3893f0cd3aee8ea81929e3474d8e622be0bd2a9bac943bb4756"), looks := true }, kinds := [], alts := [], laidByText := true, laidKinds := [.data, .data, .data, .data, .sentinel, .sentinel, .pinned], laidTests := true, laidLooks := .later }
def JwsLongUptoCardSaid : Prop := Claim7.holds Tryz.pinned (.plain (OpenSpec.upto jwsLongSpec)) jwsLongUptoCard
end Rows
end Go.Proofs.YtieppmppdmcleaaGreatDoor

/-
  DERIVED. GIVEN WITH THE SEED: THE CARDS: each row of YteoofilgkbinnaaDoorRows.lean that lists a variable, with what it lists TIED to the program's text (the seventh form; the later family's looks); each row that meets fmt, with fmt's text TOLD by the authors' own Lean function (tested against real Go, not proved from fmt's source: count such statements apart). THE CARD IS WHAT COUNTS. Prove the row's statement (the work); the ties are given (YteoofilgkbinnaaDoorTie.lean); close each card by the builder's one call (the guide's Derived/Test/ToyasCard.lean, 'card_holds'). Laid BY PROGRAM, IN A SANDBOX (cutbox-door.mjs). By AI agents, Wed Nov 11 2026. No macro, syntax, notation, axiom, sorry.
-/
import Derived.Test.YteoofilgkbinnaaDoorRows
import GoSem.ClaimSeven
namespace Go.Proofs.YteoofilgkbinnaaDoor
namespace Rows

/-- THE TIED CARD OF 'countersignlaw7.PctAll'. -/
def pctAllCard : Claim7 := { stood := { row := pctAllRow, standIns := [], harness := (true, "85e15915026ef91d441d829a74ec2171505e15faddac5a9088ff8bdb34929185"), looks := false }, kinds := [], alts := [], laidByText := true, laidKinds := [.widerDeep], laidTests := true, laidLooks := .later }
def PctAllCardSaid : Prop := Claim7.holds Tryd.pinned (.plain (OpenSpec.ofChange pctAllSpec)) pctAllCard

/-- THE TIED CARD OF 'countersignlaw7.PctBack'. -/
def pctBackCard : Claim7 := { stood := { row := pctBackRow, standIns := [], harness := (true, "85e15915026ef91d441d829a74ec2171505e15faddac5a9088ff8bdb34929185"), looks := false }, kinds := [], alts := [], laidByText := true, laidKinds := [.widerDeep], laidTests := true, laidLooks := .later }
def PctBackCardSaid : Prop := Claim7.holds Tryd.pinned (.plain (OpenSpec.ofChange pctBackSpec)) pctBackCard

/-- THE TIED CARD OF 'countersignlaw7.PctOnly'. -/
def pctOnlyCard : Claim7 := { stood := { row := pctOnlyRow, standIns := [], harness := (true, "85e15915026ef91d441d829a74ec2171505e15faddac5a9088ff8bdb34929185"), looks := false }, kinds := [], alts := [], laidByText := true, laidKinds := [.widerDeep], laidTests := true, laidLooks := .later }
def PctOnlyCardSaid : Prop := Claim7.holds Tryd.pinned (.plain (OpenSpec.ofChange pctOnlySpec)) pctOnlyCard

/-- THE TIED CARD OF 'countersignlaw7.PctBytes'. -/
def pctBytesCard : Claim7 := { stood := { row := pctBytesRow, standIns := [], harness := (true, "85e15915026ef91d441d829a74ec2171505e15faddac5a9088ff8bdb34929185"), looks := false }, kinds := [], alts := [], laidByText := true, laidKinds := [.widerDeep], laidTests := true, laidLooks := .later }
def PctBytesCardSaid : Prop := Claim7.holds Tryd.pinned (.plain (OpenSpec.ofChange pctBytesSpec)) pctBytesCard

/-- THE SECOND FORM's CARD OF 'countersignlaw7.PctAll'. -/
def pctAllUptoCard : Claim7 := { stood := { row := pctAllUptoRow, standIns := [], harness := (true, "85e15915026ef91d441d829a74ec2171505e15faddac5a9088ff8bdb34929185"), looks := false }, kinds := [], alts := [], laidByText := true, laidKinds := [.widerDeep], laidTests := true, laidLooks := .later }
def PctAllUptoCardSaid : Prop := Claim7.holds Tryd.pinned (.plain (OpenSpec.upto pctAllSpec)) pctAllUptoCard

/-- THE SECOND FORM's CARD OF 'countersignlaw7.PctBack'. -/
def pctBackUptoCard : Claim7 := { stood := { row := pctBackUptoRow, standIns := [], harness := (true, "85e15915026ef91d441d829a74ec2171505e15faddac5a9088ff8bdb34929185"), looks := false }, kinds := [], alts := [], laidByText := true, laidKinds := [.widerDeep], laidTests := true, laidLooks := .later }
def PctBackUptoCardSaid : Prop := Claim7.holds Tryd.pinned (.plain (OpenSpec.upto pctBackSpec)) pctBackUptoCard

/-- THE SECOND FORM's CARD OF 'countersignlaw7.PctOnly'. -/
def pctOnlyUptoCard : Claim7 := { stood := { row := pctOnlyUptoRow, standIns := [], harness := (true, "85e15915026ef91d441d829a74ec2171505e15faddac5a9088ff8bdb34929185"), looks := false }, kinds := [], alts := [], laidByText := true, laidKinds := [.widerDeep], laidTests := true, laidLooks := .later }
def PctOnlyUptoCardSaid : Prop := Claim7.holds Tryd.pinned (.plain (OpenSpec.upto pctOnlySpec)) pctOnlyUptoCard

/-- THE SECOND FORM's CARD OF 'countersignlaw7.PctBytes'. -/
def pctBytesUptoCard : Claim7 := { stood := { row := pctBytesUptoRow, standIns := [], harness := (true, "85e15915026ef91d441d829a74ec2171505e15faddac5a9088ff8bdb34929185"), looks := false }, kinds := [], alts := [], laidByText := true, laidKinds := [.widerDeep], laidTests := true, laidLooks := .later }
def PctBytesUptoCardSaid : Prop := Claim7.holds Tryd.pinned (.plain (OpenSpec.upto pctBytesSpec)) pctBytesUptoCard
end Rows
end Go.Proofs.YteoofilgkbinnaaDoor

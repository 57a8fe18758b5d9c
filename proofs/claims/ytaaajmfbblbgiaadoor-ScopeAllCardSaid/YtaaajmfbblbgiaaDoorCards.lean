/-
  DERIVED. GIVEN WITH THE SEED: THE CARDS: each row of YtaaajmfbblbgiaaDoorRows.lean that lists a variable, with what it lists TIED to the program's text (the seventh form; the later family's looks); each row that meets fmt, with fmt's text TOLD by the authors' own Lean function (tested against real Go, not proved from fmt's source: count such statements apart). THE CARD IS WHAT COUNTS. Prove the row's statement (the work); the ties are given (YtaaajmfbblbgiaaDoorTie.lean); close each card by the builder's one call (the guide's Derived/Test/ToyasCard.lean, 'card_holds'). Laid BY PROGRAM, IN A SANDBOX (cutbox-door.mjs). By AI agents, Wed Nov 11 2026. No macro, syntax, notation, axiom, sorry.
-/
import Derived.Test.YtaaajmfbblbgiaaDoorRows
import GoSem.ClaimSeven
namespace Go.Proofs.YtaaajmfbblbgiaaDoor
namespace Rows

/-- THE TIED CARD OF 'countersignlaw16.ScopeAll'. -/
def scopeAllCard : Claim7 := { stood := { row := scopeAllRow, standIns := [], harness := (true, "b15dc3ea4a5360bc15deb64be6bebb4aed992cb28d0881b51d3805064538203c"), looks := false }, kinds := [], alts := [], laidByText := true, laidKinds := [.data, .pinned], laidTests := true, laidLooks := .later }
def ScopeAllCardSaid : Prop := Claim7.holds Tryd.pinned (.plain (OpenSpec.ofChange scopeAllSpec)) scopeAllCard

/-- THE TIED CARD OF 'countersignlaw16.ScopeOrder'. -/
def scopeOrderCard : Claim7 := { stood := { row := scopeOrderRow, standIns := [], harness := (true, "b15dc3ea4a5360bc15deb64be6bebb4aed992cb28d0881b51d3805064538203c"), looks := false }, kinds := [], alts := [], laidByText := true, laidKinds := [.data, .pinned], laidTests := true, laidLooks := .later }
def ScopeOrderCardSaid : Prop := Claim7.holds Tryd.pinned (.plain (OpenSpec.ofChange scopeOrderSpec)) scopeOrderCard

/-- THE TIED CARD OF 'countersignlaw16.ScopeMany'. -/
def scopeManyCard : Claim7 := { stood := { row := scopeManyRow, standIns := [], harness := (true, "b15dc3ea4a5360bc15deb64be6bebb4aed992cb28d0881b51d3805064538203c"), looks := false }, kinds := [], alts := [], laidByText := true, laidKinds := [.data, .pinned], laidTests := true, laidLooks := .later }
def ScopeManyCardSaid : Prop := Claim7.holds Tryd.pinned (.plain (OpenSpec.ofChange scopeManySpec)) scopeManyCard

/-- THE SECOND FORM's CARD OF 'countersignlaw16.ScopeAll'. -/
def scopeAllUptoCard : Claim7 := { stood := { row := scopeAllUptoRow, standIns := [], harness := (true, "b15dc3ea4a5360bc15deb64be6bebb4aed992cb28d0881b51d3805064538203c"), looks := false }, kinds := [], alts := [], laidByText := true, laidKinds := [.data, .pinned], laidTests := true, laidLooks := .later }
def ScopeAllUptoCardSaid : Prop := Claim7.holds Tryd.pinned (.plain (OpenSpec.upto scopeAllSpec)) scopeAllUptoCard

/-- THE SECOND FORM's CARD OF 'countersignlaw16.ScopeOrder'. -/
def scopeOrderUptoCard : Claim7 := { stood := { row := scopeOrderUptoRow, standIns := [], harness := (true, "b15dc3ea4a5360bc15deb64be6bebb4aed992cb28d0881b51d3805064538203c"), looks := false }, kinds := [], alts := [], laidByText := true, laidKinds := [.data, .pinned], laidTests := true, laidLooks := .later }
def ScopeOrderUptoCardSaid : Prop := Claim7.holds Tryd.pinned (.plain (OpenSpec.upto scopeOrderSpec)) scopeOrderUptoCard

/-- THE SECOND FORM's CARD OF 'countersignlaw16.ScopeMany'. -/
def scopeManyUptoCard : Claim7 := { stood := { row := scopeManyUptoRow, standIns := [], harness := (true, "b15dc3ea4a5360bc15deb64be6bebb4aed992cb28d0881b51d3805064538203c"), looks := false }, kinds := [], alts := [], laidByText := true, laidKinds := [.data, .pinned], laidTests := true, laidLooks := .later }
def ScopeManyUptoCardSaid : Prop := Claim7.holds Tryd.pinned (.plain (OpenSpec.upto scopeManySpec)) scopeManyUptoCard
end Rows
end Go.Proofs.YtaaajmfbblbgiaaDoor

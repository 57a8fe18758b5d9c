/-
  DERIVED. GIVEN WITH THE SEED: THE CARDS: each row of YtokgkifckgnabaaDoorRows.lean that lists a variable, with what it lists TIED to the program's text (the seventh form; the later family's looks); each row that meets fmt, with fmt's text TOLD by the authors' own Lean function (tested against real Go, not proved from fmt's source: count such statements apart). THE CARD IS WHAT COUNTS. Prove the row's statement (the work); the ties are given (YtokgkifckgnabaaDoorTie.lean); close each card by the builder's one call (the guide's Derived/Test/ToyasCard.lean, 'card_holds'). Laid BY PROGRAM, IN A SANDBOX (cutbox-door.mjs). By AI agents, Wed Nov 11 2026. No macro, syntax, notation, axiom, sorry.
-/
import Derived.Test.YtokgkifckgnabaaDoorRows
import GoSem.ClaimSeven
namespace Go.Proofs.YtokgkifckgnabaaDoor
namespace Rows

/-- THE TIED CARD OF 'countersignlaw12.JsonBack'. -/
def jsonBackCard : Claim7 := { stood := { row := jsonBackRow, standIns := [], harness := (true, "14ed5c292bcfe42a0879668bc064d6bfd55473a0e5183743ffc0a7664bae76f3"), looks := true }, kinds := [], alts := [], laidByText := true, laidKinds := [.data, .data, .data, .sentinel, .sentinel], laidTests := true, laidLooks := .later }
def JsonBackCardSaid : Prop := Claim7.holds Tryd.pinned (.plain (OpenSpec.ofChange jsonBackSpec)) jsonBackCard

/-- THE TIED CARD OF 'countersignlaw12.JsonGet'. -/
def jsonGetCard : Claim7 := { stood := { row := jsonGetRow, standIns := [], harness := (true, "14ed5c292bcfe42a0879668bc064d6bfd55473a0e5183743ffc0a7664bae76f3"), looks := true }, kinds := [], alts := [], laidByText := true, laidKinds := [.data, .data, .data, .sentinel, .sentinel], laidTests := true, laidLooks := .later }
def JsonGetCardSaid : Prop := Claim7.holds Tryd.pinned (.plain (OpenSpec.ofChange jsonGetSpec)) jsonGetCard

/-- THE TIED CARD OF 'countersignlaw12.JsonDeep'. -/
def jsonDeepCard : Claim7 := { stood := { row := jsonDeepRow, standIns := [], harness := (true, "14ed5c292bcfe42a0879668bc064d6bfd55473a0e5183743ffc0a7664bae76f3"), looks := true }, kinds := [], alts := [], laidByText := true, laidKinds := [.data, .data, .data, .sentinel, .sentinel], laidTests := true, laidLooks := .later }
def JsonDeepCardSaid : Prop := Claim7.holds Tryd.pinned (.plain (OpenSpec.ofChange jsonDeepSpec)) jsonDeepCard

/-- THE SECOND FORM's CARD OF 'countersignlaw12.JsonBack'. -/
def jsonBackUptoCard : Claim7 := { stood := { row := jsonBackUptoRow, standIns := [], harness := (true, "14ed5c292bcfe42a0879668bc064d6bfd55473a0e5183743ffc0a7664bae76f3"), looks := true }, kinds := [], alts := [], laidByText := true, laidKinds := [.data, .data, .data, .sentinel, .sentinel], laidTests := true, laidLooks := .later }
def JsonBackUptoCardSaid : Prop := Claim7.holds Tryd.pinned (.plain (OpenSpec.upto jsonBackSpec)) jsonBackUptoCard

/-- THE SECOND FORM's CARD OF 'countersignlaw12.JsonGet'. -/
def jsonGetUptoCard : Claim7 := { stood := { row := jsonGetUptoRow, standIns := [], harness := (true, "14ed5c292bcfe42a0879668bc064d6bfd55473a0e5183743ffc0a7664bae76f3"), looks := true }, kinds := [], alts := [], laidByText := true, laidKinds := [.data, .data, .data, .sentinel, .sentinel], laidTests := true, laidLooks := .later }
def JsonGetUptoCardSaid : Prop := Claim7.holds Tryd.pinned (.plain (OpenSpec.upto jsonGetSpec)) jsonGetUptoCard

/-- THE SECOND FORM's CARD OF 'countersignlaw12.JsonDeep'. -/
def jsonDeepUptoCard : Claim7 := { stood := { row := jsonDeepUptoRow, standIns := [], harness := (true, "14ed5c292bcfe42a0879668bc064d6bfd55473a0e5183743ffc0a7664bae76f3"), looks := true }, kinds := [], alts := [], laidByText := true, laidKinds := [.data, .data, .data, .sentinel, .sentinel], laidTests := true, laidLooks := .later }
def JsonDeepUptoCardSaid : Prop := Claim7.holds Tryd.pinned (.plain (OpenSpec.upto jsonDeepSpec)) jsonDeepUptoCard
end Rows
end Go.Proofs.YtokgkifckgnabaaDoor

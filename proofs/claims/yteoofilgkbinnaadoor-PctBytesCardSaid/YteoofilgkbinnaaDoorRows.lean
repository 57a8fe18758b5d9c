/-
  NARROWER THAN 'FOR EVERY INPUT', by the rows' own cells (each row's printed sentence says how): PctAll: laid · PctBack: laid · PctOnly: laid · PctBytes: laid.
  DERIVED. THE GIVEN ROWS OF THIS SEAT. 4 by the template 'for every input the law returns true; each argument reads behind the call as it read before'; 0 by the template 'total and deterministic' (their statements: YteoofilgkbinnaaDoorTotals.lean).
  GIVEN WITH THE SEED: the statements are not yours to turn. If you find one false, say at which input.
  Laid BY PROGRAM, IN A SANDBOX (cutbox-rows.mjs): the forced cells as the released guide's own fill.sh prints them over the translation 1c3bfef5aeaaeb99… (all of the seat's roots in one cut). By AI agents, Wed Nov 11 2026. No macro, syntax, notation, axiom, sorry.
-/
import Derived.Test.YteoofilgkbinnaaDoorChecked
import GoSem.Claim
import GoSem.ClaimJoined
import GoSem.ClaimMapViews
import Derived.JoinedTies
import Derived.KernelRfl
namespace Go.Proofs.YteoofilgkbinnaaDoor
/- THE CELL 'sum', in the pinned program and in every row, IS THE sha256 OF THE DUMP (.gsa) THAT YteoofilgkbinnaaDoorProg.lean LOADS. Nothing in Lean hashes anything: it is a label: what it is worth is what the hold of that sum in a sandbox is worth. -/
noncomputable def Tryd.pinned : Pinned := { name := "yteoofilgkbinnaadoor", sum := "1c3bfef5aeaaeb99d67ba203ce0995198f0ca46c8585f9b0f64c6038785ad097", checked := Tryd.checked }
namespace Rows
def none {H : Type} : Left H := { results := [], args := [] }

/- WHAT THE LISTED PACKAGE-LEVEL VARIABLES READ AS WHEN THE CALL BEGINS. Each datum BY PROGRAM (the guide's laid-datum.mjs) off the statement by which the dump's own 'gosem.cut.vars' lays the variable. In a bare row this is a premise. The card (YteoofilgkbinnaaDoorCards.lean) ties it to the program's text. -/
def laid_countersign_pct_digits {H : Type} : DataW H := .agg [.lit (.int .i32 48), .lit (.int .i32 49), .lit (.int .i32 50), .lit (.int .i32 51), .lit (.int .i32 52), .lit (.int .i32 53), .lit (.int .i32 54), .lit (.int .i32 55), .lit (.int .i32 56), .lit (.int .i32 57), .lit (.int .i32 65), .lit (.int .i32 66), .lit (.int .i32 67), .lit (.int .i32 68), .lit (.int .i32 69), .lit (.int .i32 70)]

/-- 'countersignlaw7.PctAll': WHATEVER THE INPUT: true; the input reads as it did. -/
def pctAllSpec : ChangeSpec := { name := "pctAll", fn := fun _ => fun
  | [d1, d2, d3] => { results := [.lit (.bool true)], args := [d1, d2, d3] }
  | _ => none }
def pctAllRow : OpenClaim := { program := "yteoofilgkbinnaadoor", sum := "1c3bfef5aeaaeb99d67ba203ce0995198f0ca46c8585f9b0f64c6038785ad097", func := "countersign/countersignlaw7.PctAll", spec := "pctAll", inPlace := ["internal/abi.NoEscape"], named := ["countersign/pct.digits"], apart := false, laid := [("countersign/pct.digits", laid_countersign_pct_digits)] }
def PctAllSaid : Prop := pctAllRow.holds Tryd.pinned (OpenSpec.ofChange pctAllSpec)

/-- ITS FALSE NEIGHBOUR: 'it returns false'. Refute it at one input. -/
def pctAllWrong : ChangeSpec := { name := "pctAll", fn := fun _ => fun
  | [d1, d2, d3] => { results := [.lit (.bool false)], args := [d1, d2, d3] }
  | _ => none }
def PctAllWrongFalsely : Prop := pctAllRow.holds Tryd.pinned (OpenSpec.ofChange pctAllWrong)

/-- 'countersignlaw7.PctBack': WHATEVER THE INPUT: true; the input reads as it did. -/
def pctBackSpec : ChangeSpec := { name := "pctBack", fn := fun _ => fun
  | [d1, d2, d3] => { results := [.lit (.bool true)], args := [d1, d2, d3] }
  | _ => none }
def pctBackRow : OpenClaim := { program := "yteoofilgkbinnaadoor", sum := "1c3bfef5aeaaeb99d67ba203ce0995198f0ca46c8585f9b0f64c6038785ad097", func := "countersign/countersignlaw7.PctBack", spec := "pctBack", inPlace := ["internal/abi.NoEscape"], named := ["countersign/pct.digits"], apart := false, laid := [("countersign/pct.digits", laid_countersign_pct_digits)] }
def PctBackSaid : Prop := pctBackRow.holds Tryd.pinned (OpenSpec.ofChange pctBackSpec)

/-- ITS FALSE NEIGHBOUR: 'it returns false'. Refute it at one input. -/
def pctBackWrong : ChangeSpec := { name := "pctBack", fn := fun _ => fun
  | [d1, d2, d3] => { results := [.lit (.bool false)], args := [d1, d2, d3] }
  | _ => none }
def PctBackWrongFalsely : Prop := pctBackRow.holds Tryd.pinned (OpenSpec.ofChange pctBackWrong)

/-- 'countersignlaw7.PctOnly': WHATEVER THE INPUT: true; the input reads as it did. -/
def pctOnlySpec : ChangeSpec := { name := "pctOnly", fn := fun _ => fun
  | [d1, d2, d3] => { results := [.lit (.bool true)], args := [d1, d2, d3] }
  | _ => none }
def pctOnlyRow : OpenClaim := { program := "yteoofilgkbinnaadoor", sum := "1c3bfef5aeaaeb99d67ba203ce0995198f0ca46c8585f9b0f64c6038785ad097", func := "countersign/countersignlaw7.PctOnly", spec := "pctOnly", inPlace := ["internal/abi.NoEscape"], named := ["countersign/pct.digits"], apart := false, laid := [("countersign/pct.digits", laid_countersign_pct_digits)] }
def PctOnlySaid : Prop := pctOnlyRow.holds Tryd.pinned (OpenSpec.ofChange pctOnlySpec)

/-- ITS FALSE NEIGHBOUR: 'it returns false'. Refute it at one input. -/
def pctOnlyWrong : ChangeSpec := { name := "pctOnly", fn := fun _ => fun
  | [d1, d2, d3] => { results := [.lit (.bool false)], args := [d1, d2, d3] }
  | _ => none }
def PctOnlyWrongFalsely : Prop := pctOnlyRow.holds Tryd.pinned (OpenSpec.ofChange pctOnlyWrong)

/-- 'countersignlaw7.PctBytes': WHATEVER THE INPUT: true; the input reads as it did. -/
def pctBytesSpec : ChangeSpec := { name := "pctBytes", fn := fun _ => fun
  | [d] => { results := [.lit (.bool true)], args := [d] }
  | _ => none }
def pctBytesRow : OpenClaim := { program := "yteoofilgkbinnaadoor", sum := "1c3bfef5aeaaeb99d67ba203ce0995198f0ca46c8585f9b0f64c6038785ad097", func := "countersign/countersignlaw7.PctBytes", spec := "pctBytes", inPlace := ["internal/abi.NoEscape"], named := ["countersign/pct.digits"], apart := false, laid := [("countersign/pct.digits", laid_countersign_pct_digits)] }
def PctBytesSaid : Prop := pctBytesRow.holds Tryd.pinned (OpenSpec.ofChange pctBytesSpec)

/-- ITS FALSE NEIGHBOUR: 'it returns false'. Refute it at one input. -/
def pctBytesWrong : ChangeSpec := { name := "pctBytes", fn := fun _ => fun
  | [d] => { results := [.lit (.bool false)], args := [d] }
  | _ => none }
def PctBytesWrongFalsely : Prop := pctBytesRow.holds Tryd.pinned (OpenSpec.ofChange pctBytesWrong)

/- THE SECOND FORM. 'bulk': how many values and letters a reading holds, each counted each time it is reached (what is shared counts as often as it is met; a slice's spare places count too). A statement '..UptoSaid' is the law's where the arguments, and the package variables that the reading takes, are together of bulk at most 1048576: NARROWER than '..Said'. Prove '..Said' where nothing that the law and all that it calls make is longer than what came in: it says more and counts as full. Else prove '..UptoSaid'. A law counts once. -/
mutual
def uptoBulk {H : Type} : DataW H → Nat
  | .lit (.string bytes) => bytes.length + 1
  | .lit _ => 1
  | .nil => 1
  | .ptr d => uptoBulk d + 1
  | .slice elems spare => uptoBulkAll elems + uptoBulkAll spare + 1
  | .agg parts => uptoBulkAll parts + 1
  | .iface _ d => uptoBulk d + 1
  | .map entries => uptoBulkEntries entries + 1
  | .held _ => 1
def uptoBulkAll {H : Type} : List (DataW H) → Nat
  | [] => 0
  | d :: r => uptoBulk d + uptoBulkAll r
def uptoBulkEntries {H : Type} : List (Lit × DataW H) → Nat
  | [] => 0
  | x :: r => uptoBulkEntry x + uptoBulkEntries r
def uptoBulkEntry {H : Type} : Lit × DataW H → Nat
  | (.string bytes, d) => bytes.length + uptoBulk d + 1
  | (_, d) => uptoBulk d + 1
 end
def uptoSmall : (H : Type) → List (DataW H) → Bool := fun _ ds => decide (uptoBulkAll ds ≤ 1048576)
def OpenSpec.upto (s : _root_.Go.ChangeSpec) : _root_.Go.OpenSpec := { _root_.Go.OpenSpec.ofChange s with cond := some uptoSmall }

/-- 'countersignlaw7.PctAll', WHERE WHAT IT READS IS OF BULK AT MOST 1048576: true; the input reads as it did. -/
def pctAllUptoRow : OpenClaim := { program := "yteoofilgkbinnaadoor", sum := "1c3bfef5aeaaeb99d67ba203ce0995198f0ca46c8585f9b0f64c6038785ad097", func := "countersign/countersignlaw7.PctAll", spec := "pctAll", inPlace := ["internal/abi.NoEscape"], named := ["countersign/pct.digits"], apart := false, laid := [("countersign/pct.digits", laid_countersign_pct_digits)], narrowed := true }
def PctAllUptoSaid : Prop := pctAllUptoRow.holds Tryd.pinned (OpenSpec.upto pctAllSpec)

/-- 'countersignlaw7.PctBack', WHERE WHAT IT READS IS OF BULK AT MOST 1048576: true; the input reads as it did. -/
def pctBackUptoRow : OpenClaim := { program := "yteoofilgkbinnaadoor", sum := "1c3bfef5aeaaeb99d67ba203ce0995198f0ca46c8585f9b0f64c6038785ad097", func := "countersign/countersignlaw7.PctBack", spec := "pctBack", inPlace := ["internal/abi.NoEscape"], named := ["countersign/pct.digits"], apart := false, laid := [("countersign/pct.digits", laid_countersign_pct_digits)], narrowed := true }
def PctBackUptoSaid : Prop := pctBackUptoRow.holds Tryd.pinned (OpenSpec.upto pctBackSpec)

/-- 'countersignlaw7.PctOnly', WHERE WHAT IT READS IS OF BULK AT MOST 1048576: true; the input reads as it did. -/
def pctOnlyUptoRow : OpenClaim := { program := "yteoofilgkbinnaadoor", sum := "1c3bfef5aeaaeb99d67ba203ce0995198f0ca46c8585f9b0f64c6038785ad097", func := "countersign/countersignlaw7.PctOnly", spec := "pctOnly", inPlace := ["internal/abi.NoEscape"], named := ["countersign/pct.digits"], apart := false, laid := [("countersign/pct.digits", laid_countersign_pct_digits)], narrowed := true }
def PctOnlyUptoSaid : Prop := pctOnlyUptoRow.holds Tryd.pinned (OpenSpec.upto pctOnlySpec)

/-- 'countersignlaw7.PctBytes', WHERE WHAT IT READS IS OF BULK AT MOST 1048576: true; the input reads as it did. -/
def pctBytesUptoRow : OpenClaim := { program := "yteoofilgkbinnaadoor", sum := "1c3bfef5aeaaeb99d67ba203ce0995198f0ca46c8585f9b0f64c6038785ad097", func := "countersign/countersignlaw7.PctBytes", spec := "pctBytes", inPlace := ["internal/abi.NoEscape"], named := ["countersign/pct.digits"], apart := false, laid := [("countersign/pct.digits", laid_countersign_pct_digits)], narrowed := true }
def PctBytesUptoSaid : Prop := pctBytesUptoRow.holds Tryd.pinned (OpenSpec.upto pctBytesSpec)

end Rows
end Go.Proofs.YteoofilgkbinnaaDoor

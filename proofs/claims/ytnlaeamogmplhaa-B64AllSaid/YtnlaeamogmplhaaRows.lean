/-
  No cell of these rows narrows 'for every input' (looked for: loops, veiled, ifaces, maps, wideKeys, modest, calm, conditions, laid).
  DERIVED. THE GIVEN ROWS OF THIS SEAT. 3 by the template 'for every input the law returns true; each argument reads behind the call as it read before'; 0 by the template 'total and deterministic' (their statements: YtnlaeamogmplhaaTotals.lean).
  GIVEN WITH THE SEED: the statements are not yours to turn. If you find one false, say at which input.
  Laid BY PROGRAM, IN A SANDBOX (cutbox-rows.mjs): the forced cells as the released guide's own fill.sh prints them over the translation df6a4d1b42ebfd69… (all of the seat's roots in one cut). By AI agents, Wed Nov 11 2026. No macro, syntax, notation, axiom, sorry.
-/
import Derived.Test.YtnlaeamogmplhaaChecked
import GoSem.Claim
import GoSem.ClaimJoined
import GoSem.ClaimMapViews
import Derived.JoinedTies
import Derived.KernelRfl
namespace Go.Proofs.Ytnlaeamogmplhaa
/- THE CELL 'sum', in the pinned program and in every row, IS THE sha256 OF THE DUMP (.gsa) THAT YtnlaeamogmplhaaProg.lean LOADS. Nothing in Lean hashes anything: it is a label: what it is worth is what the hold of that sum in a sandbox is worth. -/
noncomputable def Try.pinned : Pinned := { name := "ytnlaeamogmplhaa", sum := "df6a4d1b42ebfd6940c7a87908f4154fbac7492c5c9933b9b89751c2acc5406d", checked := Try.checked }
namespace Rows
def none {H : Type} : Left H := { results := [], args := [] }

/-- 'countersignlaw8.B64All': WHATEVER THE INPUT: true; the input reads as it did. -/
def b64AllSpec : ChangeSpec := { name := "b64All", fn := fun _ => fun
  | [d1, d2, d3, d4] => { results := [.lit (.bool true)], args := [d1, d2, d3, d4] }
  | _ => none }
def b64AllRow : OpenClaim := { program := "ytnlaeamogmplhaa", sum := "df6a4d1b42ebfd6940c7a87908f4154fbac7492c5c9933b9b89751c2acc5406d", func := "countersign/countersignlaw8.B64All", spec := "b64All", inPlace := ["internal/bytealg.IndexByteString", "internal/abi.NoEscape"], apart := false }
def B64AllSaid : Prop := b64AllRow.holds Try.pinned (OpenSpec.ofChange b64AllSpec)

/-- ITS FALSE NEIGHBOUR: 'it returns false'. Refute it at one input. -/
def b64AllWrong : ChangeSpec := { name := "b64All", fn := fun _ => fun
  | [d1, d2, d3, d4] => { results := [.lit (.bool false)], args := [d1, d2, d3, d4] }
  | _ => none }
def B64AllWrongFalsely : Prop := b64AllRow.holds Try.pinned (OpenSpec.ofChange b64AllWrong)

/-- 'countersignlaw8.B64Back': WHATEVER THE INPUT: true; the input reads as it did. -/
def b64BackSpec : ChangeSpec := { name := "b64Back", fn := fun _ => fun
  | [d1, d2] => { results := [.lit (.bool true)], args := [d1, d2] }
  | _ => none }
def b64BackRow : OpenClaim := { program := "ytnlaeamogmplhaa", sum := "df6a4d1b42ebfd6940c7a87908f4154fbac7492c5c9933b9b89751c2acc5406d", func := "countersign/countersignlaw8.B64Back", spec := "b64Back", inPlace := ["internal/bytealg.IndexByteString", "internal/abi.NoEscape"], apart := false }
def B64BackSaid : Prop := b64BackRow.holds Try.pinned (OpenSpec.ofChange b64BackSpec)

/-- ITS FALSE NEIGHBOUR: 'it returns false'. Refute it at one input. -/
def b64BackWrong : ChangeSpec := { name := "b64Back", fn := fun _ => fun
  | [d1, d2] => { results := [.lit (.bool false)], args := [d1, d2] }
  | _ => none }
def B64BackWrongFalsely : Prop := b64BackRow.holds Try.pinned (OpenSpec.ofChange b64BackWrong)

/-- 'countersignlaw8.B64Only': WHATEVER THE INPUT: true; the input reads as it did. -/
def b64OnlySpec : ChangeSpec := { name := "b64Only", fn := fun _ => fun
  | [d1, d2] => { results := [.lit (.bool true)], args := [d1, d2] }
  | _ => none }
def b64OnlyRow : OpenClaim := { program := "ytnlaeamogmplhaa", sum := "df6a4d1b42ebfd6940c7a87908f4154fbac7492c5c9933b9b89751c2acc5406d", func := "countersign/countersignlaw8.B64Only", spec := "b64Only", inPlace := ["internal/bytealg.IndexByteString", "internal/abi.NoEscape"], apart := false }
def B64OnlySaid : Prop := b64OnlyRow.holds Try.pinned (OpenSpec.ofChange b64OnlySpec)

/-- ITS FALSE NEIGHBOUR: 'it returns false'. Refute it at one input. -/
def b64OnlyWrong : ChangeSpec := { name := "b64Only", fn := fun _ => fun
  | [d1, d2] => { results := [.lit (.bool false)], args := [d1, d2] }
  | _ => none }
def B64OnlyWrongFalsely : Prop := b64OnlyRow.holds Try.pinned (OpenSpec.ofChange b64OnlyWrong)

/- THE SECOND FORM. 'bulk': how many values and letters a reading holds, each counted each time it is reached (what is shared counts as often as it is met; a slice's spare places count too). A statement '..UptoSaid' is the law's where the arguments, and the package variables that the reading takes, are together of bulk at most 1048576: NARROWER than '..Said'. Prove '..Said' where nothing that the law and all that it calls make is longer than what came in: it says more and counts as full. Else prove '..UptoSaid'. A law counts once. -/
mutual
def uptoBulk {H : Type} : DataW H → Nat
  | .lit (.string bytes) => bytes.length + 1
  | .lit _ => 1
  | .nil => 1
  | .ptr d => uptoBulk d + 1
  | .slice elems spare => uptoBulkAll elems + uptoBulkAll spare + 1
  | .agg parts => uptoBulkAll parts + 1
  | .iface _ d => uptoBulk d + 1
  | .map entries => uptoBulkEntries entries + 1
  | .held _ => 1
def uptoBulkAll {H : Type} : List (DataW H) → Nat
  | [] => 0
  | d :: r => uptoBulk d + uptoBulkAll r
def uptoBulkEntries {H : Type} : List (Lit × DataW H) → Nat
  | [] => 0
  | x :: r => uptoBulkEntry x + uptoBulkEntries r
def uptoBulkEntry {H : Type} : Lit × DataW H → Nat
  | (.string bytes, d) => bytes.length + uptoBulk d + 1
  | (_, d) => uptoBulk d + 1
 end
def uptoSmall : (H : Type) → List (DataW H) → Bool := fun _ ds => decide (uptoBulkAll ds ≤ 1048576)
def OpenSpec.upto (s : _root_.Go.ChangeSpec) : _root_.Go.OpenSpec := { _root_.Go.OpenSpec.ofChange s with cond := some uptoSmall }

/-- 'countersignlaw8.B64All', WHERE WHAT IT READS IS OF BULK AT MOST 1048576: true; the input reads as it did. -/
def b64AllUptoRow : OpenClaim := { program := "ytnlaeamogmplhaa", sum := "df6a4d1b42ebfd6940c7a87908f4154fbac7492c5c9933b9b89751c2acc5406d", func := "countersign/countersignlaw8.B64All", spec := "b64All", inPlace := ["internal/bytealg.IndexByteString", "internal/abi.NoEscape"], apart := false, narrowed := true }
def B64AllUptoSaid : Prop := b64AllUptoRow.holds Try.pinned (OpenSpec.upto b64AllSpec)

/-- 'countersignlaw8.B64Back', WHERE WHAT IT READS IS OF BULK AT MOST 1048576: true; the input reads as it did. -/
def b64BackUptoRow : OpenClaim := { program := "ytnlaeamogmplhaa", sum := "df6a4d1b42ebfd6940c7a87908f4154fbac7492c5c9933b9b89751c2acc5406d", func := "countersign/countersignlaw8.B64Back", spec := "b64Back", inPlace := ["internal/bytealg.IndexByteString", "internal/abi.NoEscape"], apart := false, narrowed := true }
def B64BackUptoSaid : Prop := b64BackUptoRow.holds Try.pinned (OpenSpec.upto b64BackSpec)

/-- 'countersignlaw8.B64Only', WHERE WHAT IT READS IS OF BULK AT MOST 1048576: true; the input reads as it did. -/
def b64OnlyUptoRow : OpenClaim := { program := "ytnlaeamogmplhaa", sum := "df6a4d1b42ebfd6940c7a87908f4154fbac7492c5c9933b9b89751c2acc5406d", func := "countersign/countersignlaw8.B64Only", spec := "b64Only", inPlace := ["internal/bytealg.IndexByteString", "internal/abi.NoEscape"], apart := false, narrowed := true }
def B64OnlyUptoSaid : Prop := b64OnlyUptoRow.holds Try.pinned (OpenSpec.upto b64OnlySpec)

end Rows
end Go.Proofs.Ytnlaeamogmplhaa
